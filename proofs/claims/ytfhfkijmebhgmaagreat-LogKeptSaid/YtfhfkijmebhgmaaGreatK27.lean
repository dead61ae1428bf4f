/- Texts of the claim, joined. -/
import Derived.Deep.RegionLaw
import Derived.Laws.IdiomStrings
import Derived.Laws.Strings2
import Derived.Laws.PanicsMore
import Derived.Defers
import Derived.Recover
import Derived.StillTailTactics
import Derived.Deep.LoopGhost
import Derived.Test.YtfhfkijmebhgmaaGreatK26
set_option maxHeartbeats 20000000
set_option maxRecDepth 100000
namespace Wh
open Go Go.RowKit Go.Shelf Go.Proofs Tryz
attribute [local go_sem] aT jW jm kC
def pz(l:List Nat):ByteArray:=⟨(l.map UInt8.ofNat).toArray⟩
theorem Ze(n:Int):oq n<256:=by
 unfold oq;rw[AL];omega
def JU(x:Line):List Nat:=[oq x.dh,oq x.iw,oq x.oh,oq x.dP]
theorem jdE{x:Line}(h:Jf x=true):JU x=O8 x:=by
 unfold Jf at h
 simp only[bG]at h
 unfold JU O8;rw[BL h.1.1.1,BL h.1.1.2,BL h.1.2,BL h.2]
theorem jbv{l:List Line}(h:l.all Jf=true):l.flatMap JU=l.flatMap O8:=by
 induction l with
 |nil=>rfl
 |cons y r ih=>
  rw[zl,bG]at h
  rw[kR,kR,jdE h.1,ih h.2]
theorem jbx(l:List Line):(l.flatMap JU).length=4*l.length:=by
 induction l with
 |nil=>rfl
 |cons y r ih=>rw[kR,aZ,ih,dw];simp[JU];omega
theorem jdD(l:List Line):∀n∈l.flatMap JU,n<256:=λn hn=>by
 obtain⟨y,_,hy⟩:=oL.1 hn;simp only[JU,jM,oK,ny]at hy
 rcases hy with rfl|rfl|rfl|rfl<;>exact Ze _
def GR(x:yK)(k:Nat):List Nat:=[oq x.dW,oq x.a,oq x.b,oq x.c,oq x.n,oq x.aH.length]++(x.aH.take k).flatMap JU
def XE(x:yK)(k:Nat):Bool:=!([x.dW,x.a,x.b,x.c,x.n].all qJ)||!((x.aH.take k).all Jf)
theorem jfA(x:yK)(k:Nat):(GR x k).length<=6+4*k:=by
 unfold GR;rw[aZ,jbx,bT];simp only[dw,dY];omega
theorem jgP(x:yK)(k:Nat):∀n∈GR x k,n<256:=λn hn=>by
 rcases jT.1 hn with h|h
 ·simp only[jM,oK,ny]at h
  rcases h with rfl|rfl|rfl|rfl|rfl|rfl<;>exact Ze _
 ·exact jdD _ n h
theorem jc8{x:yK}{k:Nat}(h:k<x.aH.length):GR x (k+1)=GR x k++[(gK x.aH k).dh,(gK x.aH k).iw,(gK x.aH k).oh,(gK x.aH k).dP].map oq:=by
 have e:gK x.aH k=x.aH[k]:=by simp[gK,h]
 unfold GR;rw[e,eH];congr 1
 rw[List.take_add_one,bf h,gy]
 rfl
theorem jfC{x:yK}{k:Nat}(h:k<x.aH.length):XE x (k+1)=(XE x k||!([(gK x.aH k).dh,(gK x.aH k).iw,(gK x.aH k).oh,(gK x.aH k).dP].all qJ)):=by
 have e:gK x.aH k=x.aH[k]:=by simp[gK,h]
 unfold XE;rw[e,List.take_add_one,bf h,AB,DX]
 have e2:((some x.aH[k]).toList.all Jf)=([x.aH[k].dh,x.aH[k].iw,x.aH[k].oh,x.aH[k].dP].all qJ):=by
  simp only[Option.toList_some,zl,DW,Bool.and_true,Jf,Bool.and_assoc]
 rw[e2,Bool.or_assoc]
theorem jgR(x:yK):XE x x.aH.length= !MS x:=by
 unfold XE MS;rw[fG];simp only[zl,DW,Bool.and_true,DX,Bool.or_assoc]
theorem jfB{x:yK}(h:MS x=true)(hn:x.aH.length<=3):GR x x.aH.length=OM x:=by
 have h':=h;unfold MS at h'
 simp only[bG]at h'
 obtain⟨⟨⟨⟨⟨h1,h2⟩,h3⟩,h4⟩,h5⟩,h6⟩:=h';unfold GR OM;have hl:qJ (x.aH.length:Int)=true:=L8.2 (by omega)
 rw[fG,jbv h6,BL h1,BL h2,BL h3,BL h4,BL h5,BL hl];rfl
theorem jex{w:World}{aO:Nat}{A:Option Addr}{n c:Nat}{bs:List Nat}(h:Own Qd 1 5 w aO (.slice A n c) bs)(hlt:∀x∈bs,x<256)(wK:0<bs.length):
  (convert 115 9 (.slice A n c)).run prog w=.ok (.string (pz bs)) w:=by
 obtain⟨g,c',hv,_,_⟩:=h.some_ wK;injection hv with e1 e2 e3
 subst e1 e2 e3;have hc:=λj (hj:j<bs.length)=>h.at (λ_=>rfl) (i:=j) hj
 have key:=run_convert_bytes_back (P:=prog) w 115 9 5 ⟨g,0,none⟩ c (bs.map UInt8.ofNat) underlying115 (by kernel_rfl) (by kernel_rfl) (λj hj=>by
  have hj':j<bs.length:=by simpa using hj
  obtain⟨g',c2,cur,e1,_,_,h4⟩:=hc j hj';injection e1 with e1
  injection e1 with e1
  injection e1 with e1
  subst e1;have h5:=h4 0 _ rfl;rw[gU];have e:((bs.map UInt8.ofNat)[j].toNat:Int)=(bs[j]:Int):=by
   rw[zT];have:=hlt _ (bU hj');simp
   omega
  rw[e];simpa using h5)
 rw[fU]at key
 exact key
theorem Zu(w:World)(aO:Nat)(v:Value)(l:List Nat)(n:Nat)(lC:Own Qd 1 5 w aO v l)(g c:Nat)(hc:w.cell? ⟨g,0,none⟩=some (.int .u8 n))(hn:l.length<=1000)(rV:aO<=w.heap.size):
  ∃v' w',(Builtin.append_ #[115,115] 115 #[v,.slice (some ⟨g,0,none⟩) 1 c]).run prog w=.ok v' w'/\Own Qd 1 5 w' aO v' (l++[n])/\w.grownBy w' v.ownBlock/\Below aO w w':=by
 obtain⟨ii,hi,hz,G8,hbytes⟩:=infoByte;obtain⟨v',w3,hr,hown3,hg3,_,_⟩:=run_append_own_at (P:=prog) w aO 115 115 5 ii _ 1 1 underlying115 hi hz G8 hbytes rfl (by decide) v _ _ lC ⟨g,0,none⟩ 1 c (Qd n) rfl
  (λj u hj=>by
   rw[gU];match j,hj with
   |0,hj=>exact hc.trans hj
   |j+1,hj=>simp[Qd]at hj) (one_byte n) (by unfold maxLen;omega) (by omega) rV
 refine⟨v',w3,hr,?_,hg3,(aj _ _).grown hg3 rV λk hk=>(nK lC k hk).1⟩
 unfold Own;rw[aZ,gy];simpa using hown3
theorem jeD(w:World)(x:yK)(Al:Option Addr)(cl:Nat):∃W:World,((w.alloc (.cells #[.int .i64 x.dW,.int .i64 x.a,.int .i64 x.b,.int .i64 x.c,.int .i64 x.n,.slice Al x.aH.length cl] 34)).alloc (.cells #[.slice none 0 0,.bool false] 117)).alloc (.cells #[.int .i64 x.dW,.int .i64 x.a,.int .i64 x.b,.int .i64 x.c,.int .i64 x.n] 3)=W/\
  Below w.heap.size w W/\Gz W w.heap.size (w.heap.size+1) (.slice none 0 0) false []/\iV W w.heap.size 34 [.int .i64 x.dW,.int .i64 x.a,.int .i64 x.b,.int .i64 x.c,.int .i64 x.n,.slice Al x.aH.length cl]/\iV W (w.heap.size+1+1) 3 ([x.dW,x.a,x.b,x.c,x.n].map (Value.int .i64)):=by
 have h1:iV (w.alloc (.cells #[.int .i64 x.dW,.int .i64 x.a,.int .i64 x.b,.int .i64 x.c,.int .i64 x.n,.slice Al x.aH.length cl] 34)) w.heap.size 34 [.int .i64 x.dW,.int .i64 x.a,.int .i64 x.b,.int .i64 x.c,.int .i64 x.n,.slice Al x.aH.length cl]:=iV.new _ _ _;have h2:=iV.new (w.alloc (.cells #[.int .i64 x.dW,.int .i64 x.a,.int .i64 x.b,.int .i64 x.c,.int .i64 x.n,.slice Al x.aH.length cl] 34)) 117 #[.slice none 0 0,.bool false];rw[cO]at h2
 have h3:=iV.new ((w.alloc (.cells #[.int .i64 x.dW,.int .i64 x.a,.int .i64 x.b,.int .i64 x.c,.int .i64 x.n,.slice Al x.aH.length cl] 34)).alloc (.cells #[.slice none 0 0,.bool false] 117)) 3 #[.int .i64 x.dW,.int .i64 x.a,.int .i64 x.b,.int .i64 x.c,.int .i64 x.n];rw[cO,cO]at h3
 exact⟨_,rfl,(((aj _ _).alloc (au _) _).alloc (by simp) _).alloc (by simp;omega) _,⟨h2.alloc _,Own.nil⟩,(h1.alloc _).alloc _,h3⟩
theorem ZP(w:World)(v:Value)(x:yK)(hv:Ur w w.heap.size v x)(hlb:x.aH.length<=4398046511104):
  Calls prog 28 #[v] w λe w'=>e=.returned (.tuple #[.string (pz (IU x).1),.int .i64 (IU x).2])/\Below w.heap.size w w':=by
 obtain⟨Al,cl,rfl,hX,hL,hll⟩:=Rf hv;clear hv hX;go_enter func28,ntmps28
 go_wp2_with fail;obtain⟨W,hW,hbw,hP0,hbx0,hbi⟩:=jeD w x Al cl;rw[hW];clear hW;refine(jlX W (l:=[x.dW,x.a,x.b,x.c,x.n]) hP0 hbw.size hbi (by simp) (by simp)).mono ?_
 rintro e W1 ⟨rfl,v1,hP1,_,hst1⟩;have hks:∀q,(q=w.heap.size+1\/(Value.slice none 0 0).ownBlock=some q)->q=w.heap.size+1:=λq hq=>by
  rcases hq with h|h
  ·exact h
  ·cases h
 have hB1:=hbw.trans (hst1.below (B:=w.heap.size) (λq hq=>by have:=hks q hq;omega) hbw.size)
 have Qz:=ah (hst1.blk hbx0 (λhh=>by have:=hks _ hh;omega))
 rw[iy,Bool.false_or]at hP1
 obtain⟨bs1,jag⟩:∃bs1,[x.dW,x.a,x.b,x.c,x.n].map oq=bs1:=⟨_,rfl⟩;obtain⟨bd1,hbd1⟩:∃bd1,(!([x.dW,x.a,x.b,x.c,x.n].all qJ))=bd1:=⟨_,rfl⟩;rw[jag,hbd1]at hP1
 have jmk:=ah jag;have jml:=ah hbd1;have hbl:bs1.length=5:=by rw[<- jag];rfl
 clear jag hbd1;have c0:=hP1.1.cell (j:=0) rfl;have x5:=Qz.O.cell (j:=5) rfl;have lx:=Qz.O.lt;have lp:=hP1.1.lt;have hwn:=Uk (x.aH.length:Int);obtain⟨nb,hnb⟩:∃nb,oq (x.aH.length:Int)=nb:=⟨_,rfl⟩;rw[hnb]at hwn
 have hnb':=ah hnb;have hba:Below W1.heap.size W1 (W1.alloc (.cells #[.int .u8 nb] 5)).drew:=((aj _ _).alloc (au _) _).drew;have hca:(W1.alloc (.cells #[.int .u8 nb] 5)).drew.cell? ⟨W1.heap.size,0,none⟩=some (.int .u8 nb):=(iV.new W1 5 #[.int .u8 nb]).drew.cell (j:=0) rfl;obtain⟨v2,w2,hr1,yh,hg2,hb2⟩:=Zu _ w.heap.size v1 _ nb (hP1.2.below hba) W1.heap.size 1 hca (by omega) (aY hB1.size hba.size)
 obtain⟨A2,c2,hv2⟩:=yh.isSlice;obtain⟨n2,hn2⟩:∃n2,(bs1++[nb]).length=n2:=⟨_,rfl⟩;rw[hn2]at hv2
 subst hv2;have hPa:=hP1.below hba;have jk7:iV w2 (w.heap.size+1) 117 [v1,.bool _]:=hPa.1.grown hg2 (by
  rcases Own.mQ hPa.2 hPa.1 (by decide)with hn|hn
  ·rw[hn];intro he;cases he
  ·exact λhe=>hn he.symm)
 have Ji:=Qz.O.below hba lx;have jk6:=ah (show iV w2 w.heap.size 34 _ from Ji.grown hg2 (by
  rcases Own.mQ hPa.2 Ji (by decide)with hn|hn
  ·rw[hn];intro he;cases he
  ·exact λhe=>hn he.symm))
 obtain⟨hP3,hg3⟩:=hPa.push hg2 yh;have ji9:=ah hP3;have hg3':=ah hg3;have b3:=jk7.cell (j:=0) rfl;have f3:=jk7.frozen 0;have lp2:=jk7.lt;have hB2:=ah ((hB1.trans (hba.mono hB1.size)).trans hb2);have hr1':=ah hr1;clear hP1 hst1 hks hbw hP0 hbx0 hbi hr1 yh hg2 hb2 hPa jk7 Ji hP3 hg3 hca hba hnb hn2 hbl;go_wp2_with fail;go_region_law (refine qV _ rfl (.tmp 26) (.tmp 31) 115 115 rfl v1 (.slice (some ⟨W1.heap.size,0,none⟩) 1 1) (by simp[Act.eval]) (by simp[Act.eval]) hr1'.O ?_)
 all_goals
  clear b3 f3 c0 x5 hwn hr1' lp2;have hB3:=hB2.O.grown hg3'.O hB2.O.size (λq hq=>by injection hq with hq;omega)
  have X0:=ah (jk6.O.grown hg3'.O (by intro he;injection he with he;omega))
  clear hB1 Qz lx lp hB2 hg3' jk6;generalize w2.setCell ⟨w.heap.size+1,0,none⟩ (.slice A2 n2 c2)=w4 at ji9 hB3 X0 ⊢
  have hP4:=ah (show Gz w4 w.heap.size (w.heap.size+1) (.slice A2 n2 c2) (XE x 0) (GR x 0)by
   have e1:XE x 0=bd1:=by
    rw[<- jml.O];unfold XE;rw[bV,DW,wH,Bool.or_false]
   have e2:GR x 0=bs1++[nb]:=by
    rw[<- jmk.O,<- hnb'.O];unfold GR;rw[bV,List.flatMap_nil,iJ];rfl
   rw[e1,e2];exact ji9.O)
  clear ji9 jmk jml hnb';have x5:=X0.O.cell (j:=5) rfl;have lx:=X0.O.lt;go_wp2_with fail;clear x5 lx;go_loopw[38,6] (λi _ wr=>∃(k:Nat) (v':Value),k<=x.aH.length/\i=.int .i64 k/\Gz wr w.heap.size (w.heap.size+1) v' (XE x k) (GR x k)/\iV wr w.heap.size 34 [.int .i64 x.dW,.int .i64 x.a,.int .i64 x.b,.int .i64 x.c,.int .i64 x.n,.slice Al x.aH.length cl]/\Below w.heap.size w wr) (λi _ _=>x.aH.length - (RowKit.intOf i).toNat)
  case atStart=>exact⟨0,_,aK _,rfl,hP4.O,X0.O,hB3⟩
  case round=>
   clear hP4 X0 hB3;obtain⟨k,v',hk,rfl,hP,hbx,hBr⟩:=hrel;have hP':=ah hP;have AZ:=ah hbx;clear hP hbx;by_cases hlt:k<x.aH.length
   ·have hki:(k:Int)<(x.aH.length:Int):=by omega
    obtain⟨okl,ll,f0,f1,f2,f3⟩:=(hL.O wr hBr).at_.aG hlt;have hws:=ah (jc8 hlt);have hwb:=ah (jfC hlt);obtain⟨y,hy⟩:∃y,gK x.aH k=y:=⟨_,rfl⟩;rw[hy]at f0 f1 f2 f3 hws hwb
    clear hy;go_wp2_with fail;clear f0 f1 f2 f3 okl ll;have hb2:Below wr.heap.size wr ((wr.alloc (.cells #[.int .i64 y.dh,.int .i64 y.iw,.int .i64 y.oh,.int .i64 y.dP] 44)).alloc (.cells #[.int .i64 y.dh,.int .i64 y.iw,.int .i64 y.oh,.int .i64 y.dP] 3)):=((aj _ _).alloc (au _) _).alloc (by simp) _
    have hbi:iV ((wr.alloc (.cells #[.int .i64 y.dh,.int .i64 y.iw,.int .i64 y.oh,.int .i64 y.dP] 44)).alloc (.cells #[.int .i64 y.dh,.int .i64 y.iw,.int .i64 y.oh,.int .i64 y.dP] 3)) (wr.heap.size+1) 3 ([y.dh,y.iw,y.oh,y.dP].map (Value.int .i64)):=by
     have h:=iV.new (wr.alloc (.cells #[.int .i64 y.dh,.int .i64 y.iw,.int .i64 y.oh,.int .i64 y.dP] 44)) 3 #[.int .i64 y.dh,.int .i64 y.iw,.int .i64 y.oh,.int .i64 y.dP];rw[cO]at h
     exact h
    generalize (wr.alloc (.cells #[.int .i64 y.dh,.int .i64 y.iw,.int .i64 y.oh,.int .i64 y.dP] 44)).alloc (.cells #[.int .i64 y.dh,.int .i64 y.iw,.int .i64 y.oh,.int .i64 y.dP] 3)=W2 at hb2 hbi ⊢
    have hwl:=jfA x k;refine(jlX W2 (l:=[y.dh,y.iw,y.oh,y.dP]) (hP'.O.below hb2) (aY hBr.size hb2.size) hbi (by simp) (by omega)).mono ?_
    rintro e W3 ⟨rfl,v3,hP3,_,hst3⟩;have hks:∀q,(q=w.heap.size+1\/v'.ownBlock=some q)->w.heap.size<=q/\q≠w.heap.size:=λq hq=>by
     rcases hq with rfl|hq
     ·omega
     ·refine⟨(hP'.O.2.size q hq).1,λhe=>?_⟩
      rcases Own.mQ hP'.O.2 AZ.O (by decide)with h|h
      ·rw[h]at hq;cases hq
      ·exact h (by rw[hq,he])
    have hB3:=(hBr.trans (hb2.mono hBr.size)).trans (hst3.below (B:=w.heap.size) (λq hq=>(hks q hq).1) (aY hBr.size hb2.size))
    have jk6:=ah (hst3.blk (AZ.O.below hb2 AZ.O.lt) (λhh=>(hks _ hh).2 rfl))
    have ji9:=ah (show Gz W3 w.heap.size (w.heap.size+1) v3 (XE x (k+1)) (GR x (k+1))by rw[hws.O,hwb.O];exact hP3)
    clear hP3 hst3 hks hb2 hbi hP' AZ hws hwb hwl;go_wp2_with fail;go_roundw
    case rel=>exact⟨k+1,v3,by omega,by go_num,ji9.O,jk6.O,hB3⟩
    case measure=>simp[RowKit.intOf];omega
   ·obtain rfl:k=x.aH.length:=by omega
    have c1:=hP'.O.1.cell (j:=1) rfl;have c0:=hP'.O.1.cell (j:=0) rfl;have lp:=hP'.O.1.lt;have x5:=AZ.O.cell (j:=5) rfl;have lx:=AZ.O.lt;rw[jgR]at c1
    clear hlt;cases hab:MS x
    ·rw[hab]at c1
     have bK:=ah (show IU x=([],3)by unfold IU;rw[hab];rfl)
     clear hab;go_wp2_with fail;exact fD (v:=.tuple #[.string (pz []),.int .i64 3]) (by simp[results,results28,go_sem,pz]) rfl ⟨by rw[bK.O],hBr⟩
    ·rw[hab]at c1
     by_cases h3:3<x.aH.length
     ·have bK:=ah (show IU x=([],2)by unfold IU;rw[hab,ay (by simp),aB h3])
      have h3i:(3:Int)<(x.aH.length:Int):=by omega
      clear hab;go_wp2_with fail;exact fD (v:=.tuple #[.string (pz []),.int .i64 2]) (by simp[results,results28,go_sem,pz]) rfl ⟨by rw[bK.O],hBr⟩
     ·have bK:=ah (show IU x=(GR x x.aH.length,0)by unfold IU;rw[hab,ay (by simp),ay h3,jfB hab (by omega)])
      have h3i:¬(3:Int)<(x.aH.length:Int):=by omega
      obtain⟨A9,c9,Np⟩:=hP'.O.2.isSlice;obtain⟨n9,hn9⟩:∃n9,(GR x x.aH.length).length=n9:=⟨_,rfl⟩;rw[hn9]at Np
      subst Np;have hconv:=jex hP'.O.2 (jgP x _) (by unfold GR;simp)
      clear hab hn9;go_wp2_with fail;exact fD (v:=.tuple #[.string (pz (GR x x.aH.length)),.int .i64 0]) (by simp[results,results28,go_sem]) rfl ⟨by rw[bK.O],hBr⟩
end Wh
namespace Wh
open Go Go.RowKit Go.Shelf Go.Proofs Tryz
attribute [local go_sem] aT jW jm kC
theorem Gy(l:List Nat):(pz l).size=l.length:=by simp[pz,ByteArray.size]
theorem jgC(n:Nat)(r:List Nat):(pz (n::r)).extract 1 (r.length+1)=pz r:=by
 unfold pz;rw[BR];have h:((n::r).map UInt8.ofNat).drop 1=r.map UInt8.ofNat:=rfl;rw[h,kN (by simp)]
theorem Zf(l:List Nat):(pz l).toList=l.map UInt8.ofNat:=by
 rw[xX];simp[pz]
theorem jjK(n:Nat)(r:List Nat)(hn:n<256)(h:0<(pz (n::r)).size):(((pz (n::r))[0]'h).toNat:Int)=n:=by
 have e:(pz (n::r))[0]'h=UInt8.ofNat n:=rfl;rw[e];simp
 omega
theorem jlY(w:World){gb n:Nat}{r:List Nat}(hg:iV w gb 176 [.string (pz (n::r))])(hn:n<256):
  Calls prog 146 #[.pointer (some ⟨gb,0,none⟩)] w λe w'=>e=.returned (.int .i64 n)/\iV w' gb 176 [.string (pz r)]/\w.grownBy w' (some gb):=by
 have c0:=hg.cell (j:=0) rfl;have f0:=hg.frozen 0;have hsz:=Gy (n::r);have hne:(pz (n::r)).toList.isEmpty=false:=by rw[Zf];rfl
 have htl:=jgC n r;have hg':=ah hg;clear hg;go_enter func146,ntmps146
 go_wp2_with fail;go_ret
 obtain⟨h1,h2⟩:=xA hg'.O 0 (.string (pz r));refine⟨?_,h1,h2⟩
 rw[jjK n r hn];have:wrap64 (n:Int)=n:=by unfold wrap64;omega
 rw[this];rfl
theorem VU(w:World){gb:Nat}(hg:iV w gb 176 [.string (pz [])]):
  Calls prog 146 #[.pointer (some ⟨gb,0,none⟩)] w λe w'=>e=.panicked [{v:=.iface 181 (.agg #[]),recovered:=false}]/\w=w':=by
 have c0:=hg.cell (j:=0) rfl;have hne:(pz []).toList.isEmpty=true:=by rw[Zf];rfl
 go_enter func146,ntmps146
 go_wp2_with fail;exact⟨rfl,rfl,rfl⟩
def jmE:List PanicEntry:=[{v:=.iface 181 (.agg #[]),recovered:=false}]
def jjW(w:World)(gb tb m:Nat)(T:TypeId)(l:List Nat)(cs:List Value)(e:Ending)(w':World):Prop:=
 Step (λj=>j=gb\/j=tb) w w'/\((m<=l.length/\e=.returned (.tuple #[])/\iV w' gb 176 [.string (pz (l.drop m))]/\iV w' tb T ((l.take m).map (λn:Nat=>Value.int .i64 n)++cs.drop m))\/
  (l.length<m/\e=.panicked jmE/\∃cs',cs'.length=cs.length/\iV w' tb T cs'))
theorem jhW{l:List Nat}{cs:List Value}{k:Nat}(hk:k<l.length)(hc:k<cs.length):((l.take k).map (λn:Nat=>Value.int .i64 n)++cs.drop k).set k (.int .i64 (l[k]:Nat))=(l.take (k+1)).map (λn:Nat=>Value.int .i64 n)++cs.drop (k+1):=by
 have e1:((l.take k).map (λn:Nat=>Value.int .i64 n)).length=k:=by rw[fU,bT];omega
 have h:=mG (s:=(l.take k).map (λn:Nat=>Value.int .i64 n)) (t:=cs.drop k) k (.int .i64 (l[k]:Nat)) (by rw[e1];exact au _)
 rw[h,e1,rM,jE hc,dF,Dq hk,fJ,eH];rfl
theorem jhP(w:World){gb tb lb m:Nat}{T:TypeId}{l:List Nat}{cs:List Value}(hg:iV w gb 176 [.string (pz l)])(ht:iV w tb T cs)(hT:T≠176)(hT2:T≠178)
  (hl:iV w lb 178 ((List.range m).map λi=>Value.pointer (some ⟨tb,i,none⟩))) (hm:m<=cs.length) (hm8:m<=8) (hb:∀n∈l,n<256):
  Calls prog 145 #[.pointer (some ⟨gb,0,none⟩),.slice (some ⟨lb,0,none⟩) m m] w (jjW w gb tb m T l cs):=by
 have hg':=ah hg;have ht':=ah ht;have hl':=ah hl;have hb':=ah hb;have n1:tb≠gb:=ht.ne hg hT;have n2:lb≠gb:=hl.ne hg (by decide)
 have n3:lb≠tb:=hl.ne ht (zO hT2);clear hg ht hl hb;go_enter func145,ntmps145
 go_wp2_with fail;go_loopw[8,5] (λi _ wr=>∃k:Nat,k<=m/\k<=l.length/\i=.int .i64 k/\iV wr gb 176 [.string (pz (l.drop k))]/\iV wr tb T ((l.take k).map (λn:Nat=>Value.int .i64 n)++cs.drop k)/\Step (λj=>j=gb\/j=tb) w wr) (λi _ _=>m - (RowKit.intOf i).toNat)
 case atStart=>exact⟨0,aK _,aK _,rfl,hg'.O,by simpa using ht'.O,Step.refl _ _⟩
 case round=>
  obtain⟨k,hk,hkl,rfl,hg,ht,hst⟩:=hrel;have hgr:=ah hg;have htr:=ah ht;have hst':=ah hst;clear hg ht hst;by_cases hlt:k<m
  ·have hki:(k:Int)<(m:Int):=by omega
   have hcl:wr.cell? ⟨lb,k,none⟩=some (.pointer (some ⟨tb,k,none⟩)):=(hst'.O.blk hl'.O (by omega)).cell (j:=k) (by rw[iZ,nD hlt];rfl)
   have ll:=(hst'.O.blk hl'.O (show ¬(lb=gb\/lb=tb)by omega)).lt
   by_cases kD:k<l.length
   ·have hdr:l.drop k=l[k]::l.drop (k+1):=jE kD;have hn:=hb'.O _ (bU kD);have hset:=ah (jhW kD (show k<cs.length by omega))
    obtain⟨n,hnn⟩:∃n,l[k]=n:=⟨_,rfl⟩;rw[hnn]at hdr hn hset
    have jk1:=ah (show iV wr gb 176 [.string (pz (n::l.drop (k+1)))]by rw[<- hdr];exact hgr.O)
    clear hdr hgr hnn;go_wp2_with fail;refine(jlY wr jk1.O hn).mono ?_
    rintro e W1 ⟨rfl,hg1,hgn⟩;have ht1:=ah (htr.O.grown hgn (by intro he;injection he with he;exact n1 he))
    have hg1':=ah hg1;have hst1:=ah (hst'.O.trans (Step.jR (ks:=λj=>j=gb\/j=tb) hgn (λq hq=>by injection hq with hq;exact .inl hq.symm)))
    have c1:∃u,W1.cell? ⟨tb,k,none⟩=some u:=⟨_,ht1.O.cell (j:=k) (bf (by rw[aZ,fU,bT,fQ];omega))⟩
    obtain⟨u,c1⟩:=c1;clear hg1 hgn htr hst' jk1 hcl;go_wp2_with (refine vC rfl (.tmp 15) (.tmp 14) rfl rfl tb k u n rfl rfl c1 (ht1.O.frozen _) (λw3 hw3=>?_);refine aW ?_)
    unfold Hid;obtain⟨ht3,hg3⟩:=xA ht1.O k (.int .i64 n);rw[hset.O,hw3]at ht3
    rw[hw3]at hg3
    have jia:=ah ht3;have hg3':=ah (hg1'.O.grown hg3 (by intro he;injection he with he;exact n1 he.symm))
    have hst3:=ah (hst1.O.trans (Step.jR (ks:=λj=>j=gb\/j=tb) hg3 (λq hq=>by injection hq with hq;exact .inr hq.symm)))
    clear ht3 hg3 hw3 ht1 hg1' hst1 c1;go_wp2_with fail;go_roundw
    case rel=>exact⟨k+1,by omega,by omega,by go_num,hg3'.O,jia.O,hst3.O⟩
    case measure=>simp[RowKit.intOf];omega
   ·have hdr:l.drop k=[]:=wG (by omega)
    have jk1:=ah (show iV wr gb 176 [.string (pz [])]by rw[<- hdr];exact hgr.O)
    clear hgr hdr;go_wp2_with fail;refine(VU wr jk1.O).mono ?_
    rintro e W1 ⟨rfl,rfl⟩;go_wp2_with fail;exact⟨rfl,hst'.O,.inr ⟨by omega,rfl,_,by rw[aZ,fU,bT,fQ];omega,htr.O⟩⟩
  ·obtain rfl:k=m:=by omega
   go_wp2_with fail;go_end0
   exact⟨hst'.O,.inl ⟨hkl,rfl,hgr.O,htr.O⟩⟩
end Wh
namespace Wh
open Go Go.RowKit Go.Shelf Go.Proofs Tryz
attribute [local go_sem] aT jW jm kC
def Xy:List Value:=[.int .i64 0,.int .i64 0,.int .i64 0,.int .i64 0,.int .i64 0,.slice none 0 0]
theorem Q7(w:World){sb xb rb ib:Nat}{s:ByteArray}{cx:List Value}{r0 i0:Value}(hs:iV w sb 9 [.string s])(hx:iV w xb 34 cx)(hcx:cx.length=6)(hr:iV w rb 9 [r0])(hi:iV w ib 4 [i0])(u:TypeId)(pv:Value)(older:List PanicEntry):
  CallsD prog 144 #[.pointer (some ⟨sb,0,none⟩),.pointer (some ⟨xb,0,none⟩),.pointer (some ⟨rb,0,none⟩),.pointer (some ⟨ib,0,none⟩)] (.panicking ({v:=.iface u pv,recovered:=false}::older)) w λe u' w'=>
   e=.returned (.tuple #[])/\u'=.panicking ({v:=.iface u pv,recovered:=true}::older)/\iV w' xb 34 Xy/\iV w' rb 9 [.string s]/\iV w' ib 4 [.bool false]/\Step (λj=>j=xb\/j=rb\/j=ib) w w':=by
 have cs0:=hs.cell (j:=0) rfl;refine callsD_of_wpS func144 rfl λc₀ cs hu=>?_
 apply wpS_seq;apply wpS_region;simp[wpOpsS,go_sem,recoverD,hu,ntmps144,Exit.thenS]
 refine wpS_cond (t:=true) (by simp[Act.eval,Array.replicate]) ?_
 simp only[uf];refine wpS_of_wp ?_
 go_wp2_with (refine oI rfl 34 (.tmp 1) (.tmp 6) rfl xb Xy.toArray rfl rfl 34 cx.toArray hx (by kernel_rfl) (by simp[hcx,Xy]) (by simp[Xy,Value.oneCell']) ?_;refine aW ?_)
 unfold Hid;have n1:rb≠xb:=hr.ne hx (by decide)
 have n2:ib≠xb:=hi.ne hx (by decide)
 have n3:ib≠rb:=hi.ne hr (by decide)
 have hx1:=ah (hx.row Xy);have hr1:=ah (hr.other n1 Xy.toArray);have hi1:=ah (hi.other n2 Xy.toArray);have hst1:=ah (Step.jR (ks:=λj=>j=xb\/j=rb\/j=ib) (yU w xb Xy.toArray) (λq hq=>by injection hq with hq;exact .inl hq.symm))
 generalize w.setRow xb Xy.toArray=w1 at hx1 hr1 hi1 hst1 ⊢
 clear hs hx hcx hr hi cs0 n1 n2;have d1:=hr1.O.cell (j:=0) rfl;have f1:=hr1.O.frozen 0;have d2:=hi1.O.cell (j:=0) rfl;have f2:=hi1.O.frozen 0;go_wp2_with fail;obtain⟨hr2,hg2⟩:=xA hr1.O 0 (.string s);have hx2:=hx1.O.grown hg2 (by intro he;injection he with he;exact(hx1.O.ne hr1.O (by decide)) he)
 have hi2:=hi1.O.grown hg2 (by intro he;injection he with he;exact n3 he)
 obtain⟨hi3,hg3⟩:=xA hi2 0 (.bool false);have hr3:=hr2.grown hg3 (by intro he;injection he with he;exact n3 he.symm)
 have hx3:=hx2.grown hg3 (by intro he;injection he with he;exact(hx2.ne hi2 (by decide)) he)
 have hst3:=(hst1.O.trans (Step.jR (ks:=λj=>j=xb\/j=rb\/j=ib) hg2 (λq hq=>by injection hq with hq;exact .inr (.inl hq.symm)))).trans (Step.jR (ks:=λj=>j=xb\/j=rb\/j=ib) hg3 (λq hq=>by injection hq with hq;exact .inr (.inr hq.symm)))
 exact⟨rfl,_,rfl,_,xk rfl _ _ _,rfl,rfl,hx3,hr3,hi3,hst3⟩
theorem jmM(w:World)(sb xb rb ib:Nat):CallsD prog 144 #[.pointer (some ⟨sb,0,none⟩),.pointer (some ⟨xb,0,none⟩),.pointer (some ⟨rb,0,none⟩),.pointer (some ⟨ib,0,none⟩)] .returning w λe u' w'=>e=.returned (.tuple #[])/\u'=.returning/\w=w':=by
 refine callsD_of_wpS func144 rfl λc₀ cs hu=>?_
 apply wpS_seq;apply wpS_region;simp[wpOpsS,go_sem,recoverD,hu,ntmps144,Exit.thenS]
 refine wpS_cond (t:=false) (by simp[Act.eval,Array.replicate]) ?_
 simp only[iE,uH];refine wpS_of_wp (wp_skip ?_)
 cases c₀;simp_all[bodyPostS,results,results144]
end Wh
namespace Wh
open Go Go.RowKit Go.Shelf Go.Proofs Tryz
attribute [local go_sem] aT jW jm kC
def Ls(l:List Nat)(w:World)(e:Ending)(w':World):Prop:=
 Below w.heap.size w w'/\((oz l=0/\e=.returned (.tuple #[.agg #[.int .i64 0,.int .i64 0,.int .i64 0,.int .i64 0,.int .i64 0,.slice none 0 0],.string (pz l),.bool false]))\/
  (oz l≠0/\∃vl,e=.returned (.tuple #[.agg #[.int .i64 (yI l).dW,.int .i64 (yI l).a,.int .i64 (yI l).b,.int .i64 (yI l).c,.int .i64 (yI l).n,vl],.string (pz (l.drop (oz l))),.bool true])/\Own kP 4 44 w' w.heap.size vl (yI l).aH))
theorem LY:∀(k:Nat) (t:List Nat),ql t (k+1)=ql t k++[⟨dI t (4*k),dI t (4*k+1),dI t (4*k+2),dI t (4*k+3)⟩]
 |0,t=>rfl
 |k+1,t=>by
  have h:=LY k (t.drop 4);have e:∀j,dI (t.drop 4) j=dI t (4+j):=λj=>by
   unfold dI;simp[List.getD]
  rw[ql,h,ql,jK];simp only[e];rw[show 4+4*k=4*(k+1)by omega,show 4+(4*k+1)=4*(k+1)+1 by omega,show 4+(4*k+2)=4*(k+1)+2 by omega,show 4+(4*k+3)=4*(k+1)+3 by omega]
theorem ZO{q r:List Nat}{k a b c d:Nat}(h:q.drop (4*k)=a::b::c::d::r):ql q (k+1)=ql q k++[⟨a,b,c,d⟩]:=by
 have e:∀j,dI q (4*k+j)=dI (q.drop (4*k)) j:=λj=>by
  unfold dI;simp[List.getD]
 rw[LY];have e0:=e 0;rw[jB]at e0
 rw[e0,e 1,e 2,e 3,h];rfl
theorem jgn{α:Type}{l:List α}(h:4<=l.length):∃a b c d r,l=a::b::c::d::r:=by
 match l,h with
 |a::b::c::d::r,_=>exact⟨a,b,c,d,r,rfl⟩
theorem jgq{α:Type}{l:List α}(h:5<=l.length):∃a b c d e r,l=a::b::c::d::e::r:=by
 match l,h with
 |a::b::c::d::e::r,_=>exact⟨a,b,c,d,e,r,rfl⟩
structure RdB(w:World)(s:ByteArray)(cx:List Value)(W:World):Prop where
 below:Below w.heap.size w W
 hs:iV W w.heap.size 9 [.string s]
 hx:iV W (w.heap.size+1) 34 cx
 hr:iV W (w.heap.size+1+1) 9 [.string ⟨#[]⟩]
 hi:iV W (w.heap.size+1+1+1) 4 [.bool false]
theorem RdB.up{w:World}{s:ByteArray}{cx:List Value}{W W':World}(h:RdB w s cx W)(hb:Below W.heap.size W W'):RdB w s cx W':=
 ⟨h.below.trans (hb.mono h.below.size),h.hs.below hb h.hs.lt,h.hx.below hb h.hx.lt,h.hr.below hb h.hr.lt,h.hi.below hb h.hi.lt⟩
theorem RdB.off{w:World}{s:ByteArray}{cx:List Value}{W W':World}{ks:Nat->Prop}(h:RdB w s cx W)(hs:Step ks W W')(hk:∀k,ks k->w.heap.size+1+1+1+1<=k):RdB w s cx W':=
 ⟨h.below.trans (hs.below (B:=w.heap.size) (λk hh=>by have:=hk k hh;omega) h.below.size),hs.blk h.hs (λhh=>by have:=hk _ hh;omega),hs.blk h.hx (λhh=>by have:=hk _ hh;omega),hs.blk h.hr (λhh=>by have:=hk _ hh;omega),hs.blk h.hi (λhh=>by have:=hk _ hh;omega)⟩
theorem RdB.act{w:World}{s:ByteArray}{cx cx':List Value}{W W':World}{ks:Nat->Prop}(h:RdB w s cx W)(hs:Step ks W W')(hk:∀k,ks k->k=w.heap.size+1\/w.heap.size+1+1+1+1<=k)(hx:iV W' (w.heap.size+1) 34 cx'):RdB w s cx' W':=
 ⟨h.below.trans (hs.below (B:=w.heap.size) (λk hh=>by have:=hk k hh;omega) h.below.size),hs.blk h.hs (λhh=>by have:=hk _ hh;omega),hx,hs.blk h.hr (λhh=>by have:=hk _ hh;omega),hs.blk h.hi (λhh=>by have:=hk _ hh;omega)⟩
theorem jgE(w:World)(s:ByteArray):∃W:World,(((((w.alloc (.cells #[.string s] 9)).alloc (.cells #[.int .i64 0,.int .i64 0,.int .i64 0,.int .i64 0,.int .i64 0,.slice none 0 0] 34)).alloc (.cells #[.string ⟨#[]⟩] 9)).alloc (.cells #[.bool false] 4)).alloc (.cells #[.string s] 176))=W/\
  RdB w s Xy W/\iV W (w.heap.size+1+1+1+1) 176 [.string s]/\W.heap.size=w.heap.size+1+1+1+1+1:=by
 have h1:=iV.new w 9 #[.string s];have h2:=iV.new (w.alloc (.cells #[.string s] 9)) 34 #[.int .i64 0,.int .i64 0,.int .i64 0,.int .i64 0,.int .i64 0,.slice none 0 0];have h3:=iV.new ((w.alloc (.cells #[.string s] 9)).alloc (.cells #[.int .i64 0,.int .i64 0,.int .i64 0,.int .i64 0,.int .i64 0,.slice none 0 0] 34)) 9 #[.string ⟨#[]⟩];have h4:=iV.new (((w.alloc (.cells #[.string s] 9)).alloc (.cells #[.int .i64 0,.int .i64 0,.int .i64 0,.int .i64 0,.int .i64 0,.slice none 0 0] 34)).alloc (.cells #[.string ⟨#[]⟩] 9)) 4 #[.bool false];have h5:=iV.new ((((w.alloc (.cells #[.string s] 9)).alloc (.cells #[.int .i64 0,.int .i64 0,.int .i64 0,.int .i64 0,.int .i64 0,.slice none 0 0] 34)).alloc (.cells #[.string ⟨#[]⟩] 9)).alloc (.cells #[.bool false] 4)) 176 #[.string s];simp only[cO]at h2 h3 h4 h5
 refine⟨_,rfl,⟨?_,(((h1.alloc _).alloc _).alloc _).alloc _,((h2.alloc _).alloc _).alloc _,(h3.alloc _).alloc _,h4.alloc _⟩,h5,by simp only[cO]⟩
 exact(((((aj _ _).alloc (au _) _).alloc (by simp) _).alloc (by simp only[cO];omega) _).alloc (by simp only[cO];omega) _).alloc (by simp only[cO];omega) _
theorem RdB.grown{w:World}{s:ByteArray}{cx:List Value}{W W':World}{aO:Nat}{v:Value}{ls:List Line}(h:RdB w s cx W)(ho:Own kP 4 44 W aO v ls)(hb:w.heap.size<=aO)(hg:W.grownBy W' v.ownBlock):RdB w s cx W':=by
 have key:∀ {g:Nat} {t:TypeId} {cur:List Value},iV W g t cur->44≠t->iV W' g t cur:=λhk hne=>hk.grown hg (by
  rcases Own.mQ ho hk hne with hn|hn
  ·rw[hn];intro he;cases he
  ·exact λhe=>hn he.symm)
 exact⟨qR h.below hg h.below.size (λk hk=>aY hb (ho.size k hk).1),key h.hs (by decide),key h.hx (by decide),key h.hr (by decide),key h.hi (by decide)⟩
theorem RdB.jmG{w:World}{s:ByteArray}{cx:List Value}{W:World}(h:RdB w s cx W)(j:Nat)(u:Value):RdB w s (cx.set j u) (W.setCell ⟨w.heap.size+1,j,none⟩ u)/\W.grownBy (W.setCell ⟨w.heap.size+1,j,none⟩ u) (some (w.heap.size+1)):=by
 obtain⟨h1,h2⟩:=xA h.hx j u;exact⟨h.act (Step.jR (ks:=(·=w.heap.size+1)) h2 (λk hk=>by injection hk with hk;exact hk.symm)) (λk hk=>.inl hk) h1,h2⟩
theorem jm1(w:World)(l:List Nat)(hb:∀n∈l,n<256):Calls prog 85 #[.string (pz l)] w (Ls l w):=by
 have hmf:∀(fn:Fn) (first cap:Array Value) (w:World),(Instr.makeFunc fn first cap).run prog w=.ok (.func fn first cap) w:=λ_ _ _ _=>rfl
 have hb':=ah hb;clear hb;go_enter_defers func85,ntmps85
 go_wp2_with fail;obtain⟨W,hW,hR,hG,hsz⟩:=jgE w (pz l);rw[hW];clear hW;have hbp:Below W.heap.size W (W.alloc (.cells #[.pointer (some ⟨w.heap.size+1,0,none⟩),.pointer (some ⟨w.heap.size+1,1,none⟩),.pointer (some ⟨w.heap.size+1,2,none⟩),.pointer (some ⟨w.heap.size+1,3,none⟩),.pointer (some ⟨w.heap.size+1,4,none⟩)] 178)):=(aj _ _).alloc (au _) _;have hpt:iV (W.alloc (.cells #[.pointer (some ⟨w.heap.size+1,0,none⟩),.pointer (some ⟨w.heap.size+1,1,none⟩),.pointer (some ⟨w.heap.size+1,2,none⟩),.pointer (some ⟨w.heap.size+1,3,none⟩),.pointer (some ⟨w.heap.size+1,4,none⟩)] 178)) (w.heap.size+1+1+1+1+1) 178 ((List.range 5).map λi=>Value.pointer (some ⟨w.heap.size+1,i,none⟩)):=by
  have h:=iV.new W 178 #[.pointer (some ⟨w.heap.size+1,0,none⟩),.pointer (some ⟨w.heap.size+1,1,none⟩),.pointer (some ⟨w.heap.size+1,2,none⟩),.pointer (some ⟨w.heap.size+1,3,none⟩),.pointer (some ⟨w.heap.size+1,4,none⟩)];rw[hsz]at h
  exact h
 generalize W.alloc (.cells #[.pointer (some ⟨w.heap.size+1,0,none⟩),.pointer (some ⟨w.heap.size+1,1,none⟩),.pointer (some ⟨w.heap.size+1,2,none⟩),.pointer (some ⟨w.heap.size+1,3,none⟩),.pointer (some ⟨w.heap.size+1,4,none⟩)] 178)=W1 at hbp hpt ⊢
 have hR1:=hR.up hbp;have hG1:=hG.below hbp hG.lt;clear hR hG hbp hsz;refine(jhP W1 (m:=5) hG1 hR1.hx (by decide) (by decide) hpt (by decide) (by decide) hb'.O).mono ?_
 rintro e W2 ⟨hst,⟨h5,rfl,hG2,hx2⟩|⟨h5,rfl,cs',hcs,hx2⟩⟩
 ·have hR2:=hR1.act hst (λk hk=>by omega) hx2
  clear hR1 hG1 hpt hst hx2;obtain⟨a,b,c,d,e,r,rfl⟩:=jgq h5;have jca:=ah (show RdB w (pz (a::b::c::d::e::r)) [.int .i64 a,.int .i64 b,.int .i64 c,.int .i64 d,.int .i64 e,.slice none 0 0] W2 from hR2)
  have joe:iV W2 (w.heap.size+1+1+1+1) 176 [.string (pz r)]:=hG2;clear hR2 hG2 h5;go_wp2_with fail;rcases r with _|⟨n,q⟩
  ·refine(VU W2 joe).mono ?_
   rintro e2 W3 ⟨rfl,rfl⟩;go_wp2_with fail;refine xP (f:=144) (args:=#[.pointer (some ⟨w.heap.size,0,none⟩),.pointer (some ⟨w.heap.size+1,0,none⟩),.pointer (some ⟨w.heap.size+1+1,0,none⟩),.pointer (some ⟨w.heap.size+1+1+1,0,none⟩)]) (by simp) (by simp[go_sem]) ?_
   refine(Q7 _ (jca.O).hs (jca.O).hx rfl (jca.O).hr (jca.O).hi 181 (.agg #[]) []).mono ?_
   rintro e u' w9 ⟨rfl,rfl,uO,hr9,hi9,wJ⟩;have a0:=uO.cell (j:=0) rfl;have a1:=uO.cell (j:=1) rfl;have a2:=uO.cell (j:=2) rfl;have a3:=uO.cell (j:=3) rfl;have a4:=uO.cell (j:=4) rfl;have a5:=uO.cell (j:=5) rfl;have b0:=hr9.cell (j:=0) rfl;have i0:=hi9.cell (j:=0) rfl;have bK:Ls [a,b,c,d,e] w (.returned (.tuple #[.agg #[.int .i64 0,.int .i64 0,.int .i64 0,.int .i64 0,.int .i64 0,.slice none 0 0],.string (pz [a,b,c,d,e]),.bool false])) w9:=
    ⟨(jca.O).below.trans (wJ.below (B:=w.heap.size) (λk hk=>by omega) (jca.O).below.size),.inl ⟨rfl,rfl⟩⟩
   have Hg:=ah bK;clear bK uO hr9 hi9 wJ;simp[Leaves,settle,results,results85,go_sem,a0,a1,a2,a3,a4,a5,b0,i0]
   exact Hg.O
  ·have hn:n<256:=hb'.O n (by simp)
   refine(jlY W2 joe hn).mono ?_
   rintro e2 W3 ⟨rfl,hG3,hgr⟩;have hR3:=ah (jca.O.off (Step.jR (ks:=(·=w.heap.size+1+1+1+1)) hgr (λk hk=>by injection hk with hk;exact hk.symm)) (λk hk=>by omega))
   clear jca joe hgr;by_cases h3:3<n
   ·have h3i:(3:Int)<(n:Int):=by omega
    have hz:oz (a::b::c::d::e::n::q)=0:=by
     unfold oz;rw[ay (by simp),aB (.inl (show 3<n from h3))]
    have hz':=ah hz;clear hz h3;go_wp2_with fail;refine xP (f:=144) (args:=#[.pointer (some ⟨w.heap.size,0,none⟩),.pointer (some ⟨w.heap.size+1,0,none⟩),.pointer (some ⟨w.heap.size+1+1,0,none⟩),.pointer (some ⟨w.heap.size+1+1+1,0,none⟩)]) (by simp) (by simp[go_sem]) ?_
    refine(Q7 _ (hR3.O).hs (hR3.O).hx rfl (hR3.O).hr (hR3.O).hi 181 (.agg #[]) []).mono ?_
    rintro e u' w9 ⟨rfl,rfl,uO,hr9,hi9,wJ⟩;have a0:=uO.cell (j:=0) rfl;have a1:=uO.cell (j:=1) rfl;have a2:=uO.cell (j:=2) rfl;have a3:=uO.cell (j:=3) rfl;have a4:=uO.cell (j:=4) rfl;have a5:=uO.cell (j:=5) rfl;have b0:=hr9.cell (j:=0) rfl;have i0:=hi9.cell (j:=0) rfl;have bK:Ls (a::b::c::d::e::n::q) w (.returned (.tuple #[.agg #[.int .i64 0,.int .i64 0,.int .i64 0,.int .i64 0,.int .i64 0,.slice none 0 0],.string (pz (a::b::c::d::e::n::q)),.bool false])) w9:=
     ⟨(hR3.O).below.trans (wJ.below (B:=w.heap.size) (λk hk=>by omega) (hR3.O).below.size),.inl ⟨hz'.O,rfl⟩⟩
    have Hg:=ah bK;clear bK uO hr9 hi9 wJ;simp[Leaves,settle,results,results85,go_sem,a0,a1,a2,a3,a4,a5,b0,i0]
    exact Hg.O
   ·have h3i:¬(3:Int)<(n:Int):=by omega
    have jr3:=ah hG3;clear hG3 h3;go_wp2_with fail;go_loopw[27,7] (λi _ wr=>∃(k:Nat) (vl:Value),k<=n/\4*k<=q.length/\i=.int .i64 k/\RdB w (pz (a::b::c::d::e::n::q)) [.int .i64 a,.int .i64 b,.int .i64 c,.int .i64 d,.int .i64 e,vl] wr/\iV wr (w.heap.size+1+1+1+1) 176 [.string (pz (q.drop (4*k)))]/\Own kP 4 44 wr w.heap.size vl (ql q k)) (λi _ _=>n - (RowKit.intOf i).toNat)
    case atStart=>exact⟨0,_,aK _,aK _,rfl,hR3.O,jr3.O,Own.nil⟩
    case round=>
     clear hR3 jr3;obtain⟨k,vl,hk,hkq,rfl,hR,hG,hO⟩:=hrel;have hR':=ah hR;have hG':=ah hG;have hO':=ah hO;have hsz:=hR.hi.lt;have hgl:=hG.lt;have hbel:=hR.below.size;clear hR hG hO;by_cases hlt:k<n
     ·have hki:(k:Int)<(n:Int):=by omega
      go_wp2_with fail;have hb1:Below wr.heap.size wr ((wr.alloc (.cells #[.int .i64 0,.int .i64 0,.int .i64 0,.int .i64 0] 44)).alloc (.cells #[.pointer (some ⟨wr.heap.size,0,none⟩),.pointer (some ⟨wr.heap.size,1,none⟩),.pointer (some ⟨wr.heap.size,2,none⟩),.pointer (some ⟨wr.heap.size,3,none⟩)] 178)):=((aj _ _).alloc (au _) _).alloc (by simp) _
      have htb:iV ((wr.alloc (.cells #[.int .i64 0,.int .i64 0,.int .i64 0,.int .i64 0] 44)).alloc (.cells #[.pointer (some ⟨wr.heap.size,0,none⟩),.pointer (some ⟨wr.heap.size,1,none⟩),.pointer (some ⟨wr.heap.size,2,none⟩),.pointer (some ⟨wr.heap.size,3,none⟩)] 178)) wr.heap.size 44 [.int .i64 0,.int .i64 0,.int .i64 0,.int .i64 0]:=(iV.new wr 44 #[.int .i64 0,.int .i64 0,.int .i64 0,.int .i64 0]).alloc _;have hpt:iV ((wr.alloc (.cells #[.int .i64 0,.int .i64 0,.int .i64 0,.int .i64 0] 44)).alloc (.cells #[.pointer (some ⟨wr.heap.size,0,none⟩),.pointer (some ⟨wr.heap.size,1,none⟩),.pointer (some ⟨wr.heap.size,2,none⟩),.pointer (some ⟨wr.heap.size,3,none⟩)] 178)) (wr.heap.size+1) 178 ((List.range 4).map λi=>Value.pointer (some ⟨wr.heap.size,i,none⟩)):=by
       have h:=iV.new (wr.alloc (.cells #[.int .i64 0,.int .i64 0,.int .i64 0,.int .i64 0] 44)) 178 #[.pointer (some ⟨wr.heap.size,0,none⟩),.pointer (some ⟨wr.heap.size,1,none⟩),.pointer (some ⟨wr.heap.size,2,none⟩),.pointer (some ⟨wr.heap.size,3,none⟩)];rw[cO]at h
       exact h
      generalize (wr.alloc (.cells #[.int .i64 0,.int .i64 0,.int .i64 0,.int .i64 0] 44)).alloc (.cells #[.pointer (some ⟨wr.heap.size,0,none⟩),.pointer (some ⟨wr.heap.size,1,none⟩),.pointer (some ⟨wr.heap.size,2,none⟩),.pointer (some ⟨wr.heap.size,3,none⟩)] 178)=W4 at hb1 htb hpt ⊢
      refine(jhP W4 (m:=4) (hG'.O.below hb1 hgl) htb (by decide) (by decide) hpt (by decide) (by decide) (λx hx=>hb'.O x (by
       have:=tu hx;simp[this]))).mono ?_
      rintro e3 W5 ⟨hst,⟨h4,rfl,hG5,ht5⟩|⟨h4,rfl,cs',hcs,ht5⟩⟩
      ·obtain⟨a',b',c',d',r',hq⟩:=jgn h4;rw[hq]at hG5 ht5
       have hR5:=ah ((hR'.O.up hb1).off hst (λk hk=>by omega))
       have hO5:=ah ((hO'.O.below hb1).step hst (λk hk hh=>by
        rcases hh with rfl|rfl
        ·rcases Own.mQ hO'.O hG'.O (by decide)with hn|hn
         ·rw[hn]at hk;cases hk
         ·exact hn hk
        ·have:=(hO'.O.size _ hk).2;omega))
       have jh9:iV W5 wr.heap.size 44 [.int .i64 a',.int .i64 b',.int .i64 c',.int .i64 d']:=ht5;have jr2:=ah (show iV W5 (w.heap.size+1+1+1+1) 176 [.string (pz (q.drop (4*(k+1))))]by
        have e:q.drop (4*(k+1))=r':=by
         rw[show 4*(k+1)=4*k+4 by omega,<- rW,hq]
         rfl
        rw[e];exact hG5)
       have hln:=ah (ZO hq);have hll:(ql q k).length<=1000000:=by
        have:∀(m:Nat) (t:List Nat),(ql t m).length=m:=λm=>by
         induction m with
         |zero=>intro t;rfl
         |succ m ih=>intro t;rw[ql,dw,ih]
        rw[this];omega
       have hq5:4*(k+1)<=q.length:=by rw[fQ]at h4;omega
       have hbase5:w.heap.size<=W5.heap.size:=hR5.O.below.size;have x5:=hR5.O.hx.cell (j:=5) rfl;have lx5:=hR5.O.hx.lt;have t0:=jh9.cell (j:=0) rfl;have t1:=jh9.cell (j:=1) rfl;have t2:=jh9.cell (j:=2) rfl;have t3:=jh9.cell (j:=3) rfl;clear hb1 htb hpt hst hG5 ht5 jh9 hR' hG' hO' h4 hq;go_wp2_with (refine lS _ rfl (.tmp 37) (.tmp 39) 32 44 rfl w.heap.size _ 4 32 underlying32 NR rfl (by decide) (by decide) vl (ql q k) ⟨a',b',c',d'⟩ rfl (hO5.O.alloc _) ⟨W5.heap.size,0,none⟩ 1 rfl rfl (uF _ _ _) (ZK _) hll (by rw[cO];omega) (λv9 w9 E8 je Np Hq=>?_);refine aW ?_)
       unfold Hid;obtain⟨A9,c9,jbN⟩:=E8.isSlice;obtain⟨n9,hn9⟩:∃n9,(ql q k++[(⟨a',b',c',d'⟩:Line)]).length=n9:=⟨_,rfl⟩;rw[hn9]at jbN
       subst jbN;clear hn9 Np Hq;have hRa:=hR5.O.up ((aj W5.heap.size W5).alloc (au _) (.cells #[.int .i64 a',.int .i64 b',.int .i64 c',.int .i64 d'] 44));have hOa:=hO5.O.alloc (.cells #[.int .i64 a',.int .i64 b',.int .i64 c',.int .i64 d'] 44);have hGa:=jr2.O.alloc (.cells #[.int .i64 a',.int .i64 b',.int .i64 c',.int .i64 d'] 44);have hR9:=ah (hRa.grown hOa (au _) je);have hG9:=hGa.grown je (by
        rcases Own.mQ hOa hGa (by decide)with hn|hn
        ·rw[hn];intro he;cases he
        ·exact λhe=>hn he.symm)
       rw[<- hln.O]at E8
       have y5:=hR9.O.hx.cell (j:=5) rfl;have z5:=hR9.O.hx.frozen 5;have ly5:=hR9.O.hx.lt;clear hRa hOa hGa je x5 lx5 t0 t1 t2 t3 hR5 hO5 jr2;go_wp2_with fail;obtain⟨jrN,Cb⟩:=hR9.O.jmG 5 (.slice A9 n9 c9);have jjd:=ah (E8.kept Cb (Own.mQ E8 hR9.O.hx (by decide)))
       have jum:=ah (hG9.grown Cb (by intro he;injection he with he;omega))
       have jrM:=ah (show RdB w (pz (a::b::c::d::e::n::q)) [.int .i64 a,.int .i64 b,.int .i64 c,.int .i64 d,.int .i64 e,.slice A9 n9 c9] _ from jrN)
       clear jrN Cb E8 hG9 hR9 y5 z5 ly5;go_roundw
       case rel=>exact⟨k+1,_,by omega,hq5,by go_num,jrM.O,jum.O,jjd.O⟩
       case measure=>simp[RowKit.intOf];omega
      ·have hR5:=ah ((hR'.O.up hb1).off hst (λk hk=>by omega))
       have hz:oz (a::b::c::d::e::n::q)=0:=by
        have h5:dI (a::b::c::d::e::n::q) 5=n:=rfl;rw[fQ]at h4
        unfold oz;rw[h5,ay (by simp),aB (.inr (by simp only[dw];omega))]
       have hz':=ah hz;clear hR' hG' hO' hb1 htb hpt hst ht5 hz h4;go_wp2_with fail;refine xP (f:=144) (args:=#[.pointer (some ⟨w.heap.size,0,none⟩),.pointer (some ⟨w.heap.size+1,0,none⟩),.pointer (some ⟨w.heap.size+1+1,0,none⟩),.pointer (some ⟨w.heap.size+1+1+1,0,none⟩)]) (by simp) (by simp[go_sem]) ?_
       refine(Q7 _ (hR5.O).hs (hR5.O).hx rfl (hR5.O).hr (hR5.O).hi 181 (.agg #[]) []).mono ?_
       rintro e u' w9 ⟨rfl,rfl,uO,hr9,hi9,wJ⟩;have a0:=uO.cell (j:=0) rfl;have a1:=uO.cell (j:=1) rfl;have a2:=uO.cell (j:=2) rfl;have a3:=uO.cell (j:=3) rfl;have a4:=uO.cell (j:=4) rfl;have a5:=uO.cell (j:=5) rfl;have b0:=hr9.cell (j:=0) rfl;have i0:=hi9.cell (j:=0) rfl;have bK:Ls (a::b::c::d::e::n::q) w (.returned (.tuple #[.agg #[.int .i64 0,.int .i64 0,.int .i64 0,.int .i64 0,.int .i64 0,.slice none 0 0],.string (pz (a::b::c::d::e::n::q)),.bool false])) w9:=
        ⟨(hR5.O).below.trans (wJ.below (B:=w.heap.size) (λk hk=>by omega) (hR5.O).below.size),.inl ⟨hz'.O,rfl⟩⟩
       have Hg:=ah bK;clear bK uO hr9 hi9 wJ;simp[Leaves,settle,results,results85,go_sem,a0,a1,a2,a3,a4,a5,b0,i0]
       exact Hg.O
     ·obtain rfl:k=n:=by omega
      have h5:dI (a::b::c::d::e::k::q) 5=k:=rfl;have hac:oz (a::b::c::d::e::k::q)=6+4*k:=by
       unfold oz;rw[h5,ay (by simp),ay (by simp only[dw];omega)]
      have hdr:List.drop (6+4*k) (a::b::c::d::e::k::q)=q.drop (4*k):=by
       rw[Nat.add_comm];rfl
      have jn6:=ah hac;have hdr':=ah hdr;clear h5 hac hdr hlt;obtain⟨A9,c9,jbN⟩:=hO'.O.isSlice;obtain⟨n9,hn9⟩:∃n9,(ql q k).length=n9:=⟨_,rfl⟩;rw[hn9]at jbN
      subst jbN;have x0:=hR'.O.hx.cell (j:=0) rfl;have x1:=hR'.O.hx.cell (j:=1) rfl;have x2:=hR'.O.hx.cell (j:=2) rfl;have x3:=hR'.O.hx.cell (j:=3) rfl;have x4:=hR'.O.hx.cell (j:=4) rfl;have x5:=hR'.O.hx.cell (j:=5) rfl;have g0:=hG'.O.cell (j:=0) rfl;clear hn9;go_wp2_with fail;go_still_tail 5,(by kernel_rfl)
      change wpList _ _ _ _ _ wr.drew;have hRd:=hR'.O.up (aj wr.heap.size wr).drew;have hOd:Own kP 4 44 wr.drew w.heap.size (.slice A9 n9 c9) (ql q k):=hO'.O.below (aj _ _).drew;refine oI rfl 34 (.tmp 2) (.tmp 43) rfl (w.heap.size+1) #[.int .i64 a,.int .i64 b,.int .i64 c,.int .i64 d,.int .i64 e,.slice A9 n9 c9] rfl rfl 34 _ hRd.hx (by kernel_rfl) rfl (by simp[Value.oneCell']) ?_
      have hg1:=yU wr.drew (w.heap.size+1) #[.int .i64 a,.int .i64 b,.int .i64 c,.int .i64 d,.int .i64 e,.slice A9 n9 c9];have hR1:=hRd.act (Step.jR (ks:=(·=w.heap.size+1)) hg1 (λj hj=>by injection hj with hj;exact hj.symm)) (λj hj=>.inl hj) (hRd.hx.row [.int .i64 a,.int .i64 b,.int .i64 c,.int .i64 d,.int .i64 e,.slice A9 n9 c9])
      have hO1:=hOd.kept hg1 (Own.mQ hOd hRd.hx (by decide))
      generalize wr.drew.setRow (w.heap.size+1) #[.int .i64 a,.int .i64 b,.int .i64 c,.int .i64 d,.int .i64 e,.slice A9 n9 c9]=w1 at hg1 hR1 hO1 ⊢
      clear x0 x1 x2 x3 x4 x5 g0 hRd hOd hg1 hR' hG' hO';have jej:=ah hR1;have joa:=ah hO1;have r0:=hR1.hr.cell (j:=0) rfl;have rf:=hR1.hr.frozen 0;have i0:=hR1.hi.cell (j:=0) rfl;have if0:=hR1.hi.frozen 0;clear hR1 hO1;go_wp2_with fail;refine xP (f:=144) (args:=#[.pointer (some ⟨w.heap.size,0,none⟩),.pointer (some ⟨w.heap.size+1,0,none⟩),.pointer (some ⟨w.heap.size+1+1,0,none⟩),.pointer (some ⟨w.heap.size+1+1+1,0,none⟩)]) (by simp) (by simp[go_sem]) ?_
      refine(jmM _ _ _ _ _).mono ?_
      rintro e3 u' w9 ⟨rfl,rfl,rfl⟩;clear r0 rf i0 if0;obtain⟨hr2,hg2⟩:=xA jej.O.hr 0 (.string (pz (q.drop (4*k))));have hx2:=jej.O.hx.grown hg2 (by intro he;injection he with he;omega)
      have hi2:=jej.O.hi.grown hg2 (by intro he;injection he with he;omega)
      have hO2:=joa.O.kept hg2 (Own.mQ joa.O jej.O.hr (by decide))
      have hb2:=jej.O.below.grown hg2 jej.O.below.size (λj hj=>by injection hj with hj;omega)
      obtain⟨hi3,hg3⟩:=xA hi2 0 (.bool true);have hx3:=hx2.grown hg3 (by intro he;injection he with he;omega)
      have hr3:=hr2.grown hg3 (by intro he;injection he with he;omega)
      have hO3:=hO2.kept hg3 (Own.mQ hO2 hi2 (by decide))
      have hb3:=hb2.grown hg3 hb2.size (λj hj=>by injection hj with hj;omega)
      generalize (w1.setCell ⟨w.heap.size+1+1,0,none⟩ (.string (pz (q.drop (4*k))))).setCell ⟨w.heap.size+1+1+1,0,none⟩ (.bool true)=wF at hi3 hx3 hr3 hO3 hb3 ⊢
      have a0:=hx3.cell (j:=0) rfl;have a1:=hx3.cell (j:=1) rfl;have a2:=hx3.cell (j:=2) rfl;have a3:=hx3.cell (j:=3) rfl;have a4:=hx3.cell (j:=4) rfl;have a5:=hx3.cell (j:=5) rfl;have b0:=hr3.cell (j:=0) rfl;have i0:=hi3.cell (j:=0) rfl;have bK:Ls (a::b::c::d::e::k::q) w (.returned (.tuple #[.agg #[.int .i64 a,.int .i64 b,.int .i64 c,.int .i64 d,.int .i64 e,.slice A9 n9 c9],.string (pz (q.drop (4*k))),.bool true])) wF:=
       ⟨hb3,.inr ⟨by rw[jn6.O];omega,_,by rw[jn6.O,hdr'.O];rfl,hO3⟩⟩
      have Hg:=ah bK;clear bK hi3 hx3 hr3 hO3 hb3 hx2 hi2 hr2 hO2 hb2 hg2 hg3 jej joa jn6 hdr';simp[Leaves,settle,results,results85,go_sem,a0,a1,a2,a3,a4,a5,b0,i0]
      exact Hg.O
 ·have hR2:=ah (hR1.act hst (λk hk=>by omega) hx2)
  have hz:oz l=0:=by unfold oz;rw[aB (by omega)]
  have hz':=ah hz;clear hR1 hG1 hpt hst hx2 hz h5;go_wp2_with fail;refine xP (f:=144) (args:=#[.pointer (some ⟨w.heap.size,0,none⟩),.pointer (some ⟨w.heap.size+1,0,none⟩),.pointer (some ⟨w.heap.size+1+1,0,none⟩),.pointer (some ⟨w.heap.size+1+1+1,0,none⟩)]) (by simp) (by simp[go_sem]) ?_
  refine(Q7 _ (hR2.O).hs (hR2.O).hx hcs (hR2.O).hr (hR2.O).hi 181 (.agg #[]) []).mono ?_
  rintro e u' w9 ⟨rfl,rfl,uO,hr9,hi9,wJ⟩;have a0:=uO.cell (j:=0) rfl;have a1:=uO.cell (j:=1) rfl;have a2:=uO.cell (j:=2) rfl;have a3:=uO.cell (j:=3) rfl;have a4:=uO.cell (j:=4) rfl;have a5:=uO.cell (j:=5) rfl;have b0:=hr9.cell (j:=0) rfl;have i0:=hi9.cell (j:=0) rfl;have bK:Ls l w (.returned (.tuple #[.agg #[.int .i64 0,.int .i64 0,.int .i64 0,.int .i64 0,.int .i64 0,.slice none 0 0],.string (pz l),.bool false])) w9:=
   ⟨(hR2.O).below.trans (wJ.below (B:=w.heap.size) (λk hk=>by omega) (hR2.O).below.size),.inl ⟨hz'.O,rfl⟩⟩
  have Hg:=ah bK;clear bK uO hr9 hi9 wJ;simp[Leaves,settle,results,results85,go_sem,a0,a1,a2,a3,a4,a5,b0,i0]
  exact Hg.O
end Wh
namespace Wh
open Go Go.RowKit Go.Shelf Go.Proofs Tryz
attribute [local go_sem] aT jW jm kC
def jjI(x:yK×Value):List Value:=[.int .i64 x.1.dW,.int .i64 x.1.a,.int .i64 x.1.b,.int .i64 x.1.c,.int .i64 x.1.n,x.2]
theorem jfd:Elem prog 34 (.agg #[.int .i64 0,.int .i64 0,.int .i64 0,.int .i64 0,.int .i64 0,.slice none 0 0]) 6 64:=Iu (by kernel_rfl)
theorem Xj(w:World)(cs:Array Value)(e:TypeId):∀j u,cs.toList[j]?=some u->((w.alloc (.cells cs e)).alloc (.cells cs e)).cell? ((⟨w.heap.size+1,0,none⟩:Addr).add j)=some u:=λj u hj=>by
 have h:=uF (w.alloc (.cells cs e)) cs e j u hj;rw[cO]at h
 exact h
def zD(w:World)(aO:Nat)(v:Value)(l:List yK):Prop:=∃ps:List (yK×Value),ps.map (·.1)=l/\Own jjI 6 34 w aO v ps/\∀x∈ps,Own kP 4 44 w aO x.2 x.1.aH
theorem zD.below{w w':World}{aO:Nat}{v:Value}{l:List yK}(h:zD w aO v l)(hb:Below w.heap.size w w'):zD w' aO v l:=by
 obtain⟨ps,h1,h2,h3⟩:=h;exact⟨ps,h1,h2.below hb,λx hx=>(h3 x hx).below hb⟩
theorem zD.nil{w:World}{aO:Nat}:zD w aO (.slice none 0 0) []:=⟨[],rfl,Own.nil,λx hx=>by cases hx⟩
theorem zD.isSlice{w:World}{aO:Nat}{v:Value}{l:List yK}(h:zD w aO v l):∃A c,v=.slice A l.length c:=by
 obtain⟨ps,h1,h2,h3⟩:=h;obtain⟨A,c,e⟩:=h2.isSlice;exact⟨A,c,by rw[e,<- h1,fU]⟩
theorem zD.from_{w:World}{aO base':Nat}{v:Value}{l:List yK}(h:zD w aO v l)(hb:base'<=aO):zD w base' v l:=by
 obtain⟨ps,h1,h2,h3⟩:=h;exact⟨ps,h1,h2.from_ hb,λx hx=>(h3 x hx).from_ hb⟩
theorem GZ{n:Nat}{t:List Nat}(h:n=0\/oz t=0):rE n t=([],0):=by
 rcases n with _|n
 ·rfl
 ·rw[rE,aB (by omega)]
theorem NG{n:Nat}{t:List Nat}(h:oz t≠0):rE (n+1) t=(yI t::(rE n (t.drop (oz t))).1,oz t+(rE n (t.drop (oz t))).2):=by
 rw[rE,ay h]
theorem jby(w:World)(t:List Nat)(hb:∀n∈t,n<256):Calls prog 30 #[.string (pz t)] w λe w'=>
  ∃v,e=.returned (.tuple #[v,.int .i64 (qj t).2.1,.int .i64 (qj t).2.2])/\zD w' w.heap.size v (qj t).1/\Below w.heap.size w w':=by
 have hb':=ah hb;have hsz:=Gy t;clear hb;go_enter func30,ntmps30
 by_cases hlong:4096<t.length
 ·have hli:(4096:Int)<(t.length:Int):=by omega
  have bK:=ah (show qj t=([],0,2)by unfold qj;rw[aB hlong])
  clear hlong;go_wp2_with fail;exact fD (v:=.tuple #[.slice none 0 0,.int .i64 0,.int .i64 2]) (by simp[results,results30,go_sem]) rfl ⟨_,by rw[bK.O],by rw[bK.O];exact zD.nil,aj _ _⟩
 ·have hli:¬(4096:Int)<(t.length:Int):=by omega
  have bK:=ah (show qj t=((rE 60 t).1,((rE 60 t).2:Int),0)by unfold qj;rw[ay hlong])
  go_wp2_with fail;go_loopg[5,6] 60 (λgk lv sv wr=>∃(done:List yK) (rem:List Nat),gk=60 - done.length/\done.length<=60/\sv=.string (pz rem)/\zD wr w.heap.size lv done/\rem.length<=t.length/\(∀n∈rem,n<256)/\
   rE 60 t=(done++(rE (60 - done.length) rem).1,(t.length - rem.length)+(rE (60 - done.length) rem).2)/\Below w.heap.size w wr)
  case atStart=>exact⟨[],t,rfl,by simp,rfl,zD.nil,au _,hb'.O,by simp,aj _ _⟩
  case round=>
   obtain⟨done,rem,hgk,hd,rfl,hA,hrl,hrb,heq,hB⟩:=hrel;obtain⟨Al,cl,rfl⟩:=hA.isSlice;have heq':=ah heq;have hA':=ah hA;have jkO:=ah hrb;have jac:=ah hgk;have hsr:=Gy rem;have hw1:IntKind.i64.wrap ((t.length:Int) - (rem.length:Int))=(t.length:Int) - (rem.length:Int):=aN _ (by omega)
   clear heq hA hrb hgk;by_cases h60:done.length<60
   ·have h6i:(done.length:Int)<60:=by omega
    go_wp2_with fail;refine(jm1 wr rem jkO.O).mono ?_
    rintro e W1 ⟨h1,⟨hz,rfl⟩|⟨hnz,vl,rfl,hO⟩⟩
    ·have hA1:=ah (hA'.O.below h1);have hB1:=hB.trans (h1.mono hB.size);have hz':=ah hz;have hA2:=ah (hA1.O.below ((aj W1.heap.size W1).alloc (au _) (.cells #[.int .i64 0,.int .i64 0,.int .i64 0,.int .i64 0,.int .i64 0,.slice none 0 0] 34)));have hB2:=hB1.alloc hB1.size (.cells #[.int .i64 0,.int .i64 0,.int .i64 0,.int .i64 0,.int .i64 0,.slice none 0 0] 34);clear hA' hz h1;have hq:rE 60 t=(done,t.length - rem.length):=by
      rw[heq'.O,GZ (.inr hz'.O)];simp
     have hf1:=ah (show qj t=(done,((t.length:Int) - (rem.length:Int)),0)by
      rw[bK.O,hq];simp only[sQ,mD,mg];omega)
     clear hq;go_wp2_with fail;exact fD (v:=.tuple #[.slice Al done.length cl,.int .i64 ((t.length:Int) - (rem.length:Int)),.int .i64 0]) (by simp[results,results30,go_sem]) rfl ⟨_,by rw[hf1.O],by rw[hf1.O];exact hA2.O,hB2⟩
    ·obtain⟨A2,c2,hvl⟩:=hO.isSlice;obtain⟨n2,hn2⟩:∃n2,(yI rem).aH.length=n2:=⟨_,rfl⟩;rw[hn2]at hvl
     subst hvl;obtain⟨x,hx⟩:∃x,yI rem=x:=⟨_,rfl⟩;obtain⟨Ut,PY⟩:∃Ut,rem.drop (oz rem)=Ut:=⟨_,rfl⟩;have hle:=Tz rem;have hl2:Ut.length<=t.length:=by rw[<- PY,fQ];omega
     have jtk:=ah (show ∀n∈Ut,n<256 from λn hn=>jkO.O n (by rw[<- PY]at hn;exact tu hn))
     have heq2:=ah (show rE 60 t=((done++[x])++(rE (60 - (done++[x]).length) Ut).1,(t.length - Ut.length)+(rE (60 - (done++[x]).length) Ut).2)by
      have e1:60 - done.length=(60 - (done++[x]).length)+1:=by rw[aZ];simp only[dw,dY];omega
      rw[heq'.O,e1,NG hnz,hx,PY,eH,List.singleton_append];simp only[sQ,mg];rw[<- PY,fQ];omega)
     rw[hx,PY];rw[hx]at hO
     have hA1:=ah (hA'.O.below h1);have hB1:=hB.trans (h1.mono hB.size);have hO1:=ah (hO.from_ hB.size);clear hx PY hn2 hO h1 hA' hnz hle;obtain⟨ps,hps,lC,hlin⟩:=hA1.O;have hown':=ah lC;have jbX:=ah hlin;have jii:=ah hps;have hpl:ps.length<=1000000:=by have:=kX List.length hps;rw[fU]at this;omega
     have hbs:=hB1.size;have hpe:ps.length=done.length:=by rw[<- hps,fU]
     clear lC hlin hps hpe;go_wp2_with (refine lS _ rfl (.tmp 25) (.tmp 27) 63 34 rfl w.heap.size _ 6 64 underlying63 jfd rfl (by decide) (by decide) (.slice Al done.length cl) ps (x,.slice A2 n2 c2) rfl ((hown'.O.alloc _).alloc _) ⟨W1.heap.size+1,0,none⟩ 1 rfl rfl (Xj _ _ _) (by simp[jjI,Value.oneCell']) hpl (by rw[cO,cO];omega) (λv9 w9 E8 je Np Hq=>?_);refine aW ?_)
     unfold Hid;have hb2:Below W1.heap.size W1 ((W1.alloc (.cells #[.int .i64 x.dW,.int .i64 x.a,.int .i64 x.b,.int .i64 x.c,.int .i64 x.n,.slice A2 n2 c2] 34)).alloc (.cells #[.int .i64 x.dW,.int .i64 x.a,.int .i64 x.b,.int .i64 x.c,.int .i64 x.n,.slice A2 n2 c2] 34)):=((aj _ _).alloc (au _) _).alloc (by simp) _
     have hA9:=ah (show zD w9 w.heap.size v9 (done++[x])from⟨ps++[(x,.slice A2 n2 c2)],by rw[fJ,jii.O];rfl,E8,λy hy=>by
      have hy1:Own kP 4 44 W1 w.heap.size y.2 y.1.aH:=by
       rcases jT.1 hy with h|h
       ·exact jbX.O y h
       ·rw[iP]at h
        subst h;exact hO1.O
      exact(hy1.below hb2).kept je (Own.apart (hy1.below hb2) (hown'.O.below hb2) (by decide))⟩)
     have LD:=hB1.trans (hb2.mono hB1.size)|>.trans Hq
     clear E8 je Np Hq hb2 hown' jbX jii hA1 hO1 hB1;go_wp2_with fail;go_roundg (60 - (done++[x]).length)
     case rel=>exact⟨done++[x],Ut,rfl,by rw[aZ];simp only[dw,dY];omega,rfl,hA9.O,hl2,jtk.O,heq2.O,LD⟩
     case measure=>rw[jac.O,aZ];simp only[dw,dY];omega
   ·have h6i:¬(done.length:Int)<60:=by omega
    have joj:60 - done.length=0:=by omega
    have hq:rE 60 t=(done,t.length - rem.length):=by
     rw[heq'.O,GZ (.inl joj)];simp
    have hf1:=ah (show qj t=(done,((t.length:Int) - (rem.length:Int)),0)by
     rw[bK.O,hq];simp only[sQ,mD,mg];omega)
    clear hq;go_wp2_with fail;exact fD (v:=.tuple #[.slice Al done.length cl,.int .i64 ((t.length:Int) - (rem.length:Int)),.int .i64 0]) (by simp[results,results30,go_sem]) rfl ⟨_,by rw[hf1.O],by rw[hf1.O];exact hA'.O,hB⟩
end Wh
