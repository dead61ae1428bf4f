/- Texts of the claim, joined. -/
import Derived.Deep.RegionLaw
import Derived.Test.YtfhfkijmebhgmaaGreatK27
set_option maxHeartbeats 20000000
set_option maxRecDepth 100000
namespace Wh
open Go Go.RowKit Go.Shelf Go.Proofs Tryz
attribute [local go_sem] aT jW jm kC
theorem zD.kept{w w':World}{aO b:Nat}{v:Value}{l:List yK}{t:TypeId}{cur:List Value}(h:zD w aO v l)(hg:w.grownBy w' (some b))(hb:iV w b t cur)(h1:34≠t)(h2:44≠t):zD w' aO v l:=by
 obtain⟨ps,e1,e2,e3⟩:=h;exact⟨ps,e1,e2.kept hg (Own.mQ e2 hb h1),λx hx=>(e3 x hx).kept hg (Own.mQ (e3 x hx) hb h2)⟩
theorem zD.at{w:World}{aO:Nat}{A:Option Addr}{n c:Nat}{l:List yK}(h:zD w aO (.slice A n c) l){k:Nat}(hk:k<l.length):∃g A2 c2,A=some ⟨g,0,none⟩/\g<w.heap.size/\w.cell? ⟨g,k*6,none⟩=some (.int .i64 l[k].dW)/\w.cell? ⟨g,k*6+1,none⟩=some (.int .i64 l[k].a)/\
  w.cell? ⟨g,k*6+2,none⟩=some (.int .i64 l[k].b)/\w.cell? ⟨g,k*6+3,none⟩=some (.int .i64 l[k].c)/\w.cell? ⟨g,k*6+4,none⟩=some (.int .i64 l[k].n)/\w.cell? ⟨g,k*6+5,none⟩=some (.slice A2 l[k].aH.length c2)/\Own kP 4 44 w aO (.slice A2 l[k].aH.length c2) l[k].aH:=by
 obtain⟨ps,e1,e2,e3⟩:=h;subst e1;have hk':k<ps.length:=by simpa using hk
 obtain⟨g,c',cur,h1,_,h3,h4⟩:=e2.at (λ_=>rfl) hk'
 injection h1 with h1 _ _
 have h5:=e3 _ (bU hk');obtain⟨A2,c2,h6⟩:=h5.isSlice;have e:(ps.map (·.1))[k]=ps[k].1:=by rw[zT]
 rw[h6]at h5
 have h7:=h4 5 _ rfl;rw[h6]at h7
 simp only[e];exact⟨g,A2,c2,h1,h3.lt,h4 0 _ rfl,h4 1 _ rfl,h4 2 _ rfl,h4 3 _ rfl,h4 4 _ rfl,h7,h5⟩
theorem jcJ(w:World)(p:dA)(Ab:Option Addr)(cb:Nat)(As:Option Addr)(cs:Nat):∃W0:World,(w.alloc (.cells #[.slice Ab p.bQ.length cb,.slice As p.aP.length cs] 25)).alloc (.cells #[.slice none 0 0,.slice none 0 0,.slice none 0 0,.slice none 0 0,.slice none 0 0,.slice none 0 0,.slice none 0 0] 31)=W0/\Below w.heap.size w W0/\
  iV W0 w.heap.size 25 [.slice Ab p.bQ.length cb,.slice As p.aP.length cs]/\jk W0 (w.heap.size+1) dH/\W0.heap.size=w.heap.size+1+1:=by
 have h1:iV (w.alloc (.cells #[.slice Ab p.bQ.length cb,.slice As p.aP.length cs] 25)) w.heap.size 25 [.slice Ab p.bQ.length cb,.slice As p.aP.length cs]:=iV.new _ _ _;have h2:=iV.new (w.alloc (.cells #[.slice Ab p.bQ.length cb,.slice As p.aP.length cs] 25)) 31 #[.slice none 0 0,.slice none 0 0,.slice none 0 0,.slice none 0 0,.slice none 0 0,.slice none 0 0,.slice none 0 0];rw[cO]at h2
 exact⟨_,rfl,((aj _ _).alloc (au _) _).alloc (by simp) _,h1.alloc _,h2,by simp⟩
theorem Ue{p:dA}{l:List yK}{s:aJ}{k:Nat}(hk:k<l.length):wL p (l.take (k+1)) s=if(act p (wL p (l.take k) s) l[k]).2=0 then(act p (wL p (l.take k) s) l[k]).1 else wL p (l.take k) s:=by
 rw[Dq hk,Qa];rfl
theorem NK:∀(m:Nat) (t:List Nat),(ql t m).length=m
 |0,_=>rfl
 |m+1,t=>by rw[ql,dw,NK m]
theorem QZ:∀(n:Nat) (t:List Nat),∀x∈(rE n t).1,x.aH.length<=3
 |0,_,x,h=>by cases h
 |n+1,t,x,h=>by
  by_cases h0:oz t=0
  ·rw[GZ (.inr h0)]at h
   cases h
  ·rw[NG h0]at h
   rcases jM.1 h with rfl|h
   ·show(ql _ _).length<=3;rw[NK];exact(jeI h0).2.2
   ·exact QZ n _ x h
theorem PL{t:List Nat}{l:List yK}{a b:Int}(h:qj t=(l,a,b)):∀x∈l,x.aH.length<=3:=λx hx=>by
 unfold qj at h
 split at h
 ·injection h with h1 h2
  subst h1;cases hx
 ·injection h with h1 h2
  subst h1;exact QZ 60 t x hx
theorem TI{t:List Nat}{l:List yK}{a b:Int}(h:qj t=(l,a,b)):l.length<=60:=by
 unfold qj at h
 split at h
 ·injection h with h1 h2
  subst h1;simp
 ·injection h with h1 h2
  subst h1;exact(Vr 60 t).1
def jlI(p:dA)(t:List Nat)(w:World)(e:Ending)(w':World):Prop:=
 ∃V,e=.returned (.tuple #[V.val,.int .i64 (sS p t).2.1,.int .i64 (sS p t).2.2])/\dK w' w.heap.size V (sS p t).1/\Below w.heap.size w w'
theorem YN(w:World)(v:Value)(p:dA)(t:List Nat)(hp:mW w w.heap.size v p)(hb:∀n∈t,n<256):Calls prog 33 #[v,.string (pz t)] w (jlI p t w):=by
 obtain⟨Ab,cb,As,cs,rfl,hP',hBn,hSz,hlb,hls⟩:=sN hp;have hb':=ah hb;clear hb hp;go_enter func33,ntmps33
 go_wp2_with fail;obtain⟨W0,hW0,hb0,hpl,hbx,lg⟩:=jcJ w p Ab cb As cs;rw[hW0];clear hW0;have y0:=hpl.cell (j:=0) rfl;have y1:=hpl.cell (j:=1) rfl;have lpl:=hpl.lt;go_wp2_with fail;clear y0 y1;refine(OZ _ _ p (hP'.O _ hb0)).mono ?_
 rintro e W1 ⟨rfl,h1⟩;have jnm:=ah (hpl.below h1 hpl.lt);have Qz:=ah (hbx.below h1 hbx.lt);have hB1:=hb0.trans (h1.mono hb0.size);have hs1:=h1.size;clear hpl hbx hb0 h1;by_cases hz:gQ p=0
 ·rw[hz];go_wp2_with fail;refine(jby W1 t hb'.O).mono ?_
  rintro e W2 ⟨vl,rfl,hA2,h2⟩;have hpl2:=ah (jnm.O.below h2 jnm.O.lt);have Ji:=ah (Qz.O.below h2 Qz.O.lt);have hB2:=hB1.trans (h2.mono hB1.size);obtain⟨Al,cl,rfl⟩:=hA2.isSlice;have jlj:=ah (hA2.from_ hB1.size);have hs2:=h2.size;clear jnm Qz hB1 hA2 h2;obtain⟨l,ln,lc,hre⟩:∃l ln lc,qj t=(l,ln,lc):=⟨_,_,_,rfl⟩;rw[hre]at jlj ⊢
  simp only at jlj ⊢
  have hl3:=ah (PL hre);have jq7:=TI hre;by_cases hlc:lc=0
  ·subst hlc;have bK:=ah (show sS p t=(wL p l (begin p),(l.length:Int),0)by
    unfold sS;rw[ay (λh=>h hz),hre]
    rfl)
   have hrt:=ah (Uo hz);have y0:=hpl2.O.cell (j:=0) rfl;have y1:=hpl2.O.cell (j:=1) rfl;have hz':=ah hz;clear hre hz;go_wp2_with fail;clear y0 y1;refine(jmL _ _ p (hP'.O _ hB2)).mono ?_
   rintro e W3 ⟨V0,rfl,ho3,h3⟩;rw[aB hz'.O]at ho3
   rw[hz'.O];have jbS:=(ho3).one;have jiu:=vG (W3);go_wp2_with (refine dB (.tmp 11) (.tmp 36) dH V0 rfl jiu rfl jbS (λw4 FY hg4=>?_);refine aW ?_)
   unfold Hid;have jeg:=qX hg4;have Ho:=FY.lt;clear jbS jiu hg4;have h24:=h3.trans (jeg.mono h3.size);have jqU:=ah (hpl2.O.below h24 hpl2.O.lt);have X0:=ah (Ji.O.below h24 Ji.O.lt);have hA4:=ah (jlj.O.below h24);have hB4:=hB2.trans (h24.mono hB2.size);have Uw:=ah ((ho3.below jeg).from_ hB2.size);have WE:=ah FY;have hlx:w.heap.size+1<W3.heap.size:=by have:=h3.size;omega
   clear hpl2 Ji jlj hB2 h24 h3 ho3 jeg FY Ho;generalize W3.heap.size=bx at WE hlx ⊢
   go_wp2_with fail;go_loopw[40] (λi wr=>∃(k:Nat) (V:SV),k<=l.length/\i=.int .i64 k/\jk wr bx V/\dK wr w.heap.size V (wL p (l.take k) (begin p))/\iV wr w.heap.size 25 [.slice Ab p.bQ.length cb,.slice As p.aP.length cs]/\jk wr (w.heap.size+1) dH/\zD wr w.heap.size (.slice Al l.length cl) l/\Below w.heap.size w wr) (λi _=>l.length - (RowKit.intOf i).toNat)
   case atStart=>exact⟨0,V0,aK _,rfl,WE.O,Uw.O,jqU.O,X0.O,hA4.O,hB4⟩
   case round=>
    clear WE Uw jqU X0 hA4 hB4;obtain⟨k,V,hk,rfl,E5,ho,hpl,hbx,hA,hBr⟩:=hrel;have P5:=ah E5;have ho':=ah ho;have hpl':=ah hpl;have AZ:=ah hbx;have hA':=ah hA;have jnR:aQ p (wL p (l.take k) (begin p))=0:=MK hrt.O;have hchk':=ah jnR;have hsm:=ah (OB jnR);obtain⟨sk,hsk⟩:∃sk,wL p (l.take k) (begin p)=sk:=⟨_,rfl⟩;rw[hsk]at hsm ho'
    have hsk':=ah hsk;clear E5 ho hpl hbx hA jnR hsk;have lbx:=P5.O.lt;have lpl:=hpl'.O.lt;obtain⟨b0,b1,b2,b3,b4,b5,b6⟩:=P5.O.cells;by_cases hlt:k<l.length
    ·have hki:(k:Int)<(l.length:Int):=by omega
     have y0:=hpl'.O.cell (j:=0) rfl;have y1:=hpl'.O.cell (j:=1) rfl;obtain⟨g,A2,c2,rfl,hgl,f0,f1,f2,f3,f4,f5,hOl⟩:=hA'.O.at hlt
     have hdn:=Ue (p:=p) (s:=begin p) hlt;rw[hsk'.O]at hdn
     obtain⟨x,hx⟩:∃x,l[k]=x:=⟨_,rfl⟩;rw[hx]at f0 f1 f2 f3 f4 f5 hOl hdn
     obtain⟨s1,c1,hact⟩:∃s1 c1,act p sk x=(s1,c1):=⟨_,_,rfl⟩;rw[hact]at hdn
     have jad:=ah hdn;have YV:=ah hact;have jrP:=ah hOl;have hx':=ah hx;clear hx hdn hact hOl;go_wp2_with fail;clear f0 f1 f2 f3 f4 f5 y0 y1 b0 b1 b2 b3 b4 b5 b6;have hal:Below wr.heap.size wr (wr.alloc (.cells #[.int .i64 x.dW,.int .i64 x.a,.int .i64 x.b,.int .i64 x.c,.int .i64 x.n,.slice A2 x.aH.length c2] 34)):=(aj _ _).alloc (au _) _;generalize wr.alloc (.cells #[.int .i64 x.dW,.int .i64 x.a,.int .i64 x.b,.int .i64 x.c,.int .i64 x.n,.slice A2 x.aH.length c2] 34)=Wa at hal ⊢
     have hBa:=hBr.trans (hal.mono hBr.size);have hx3:x.aH.length<=3:=by rw[<- hx'.O];exact hl3.O _ (bU hlt)
     refine(jm2 Wa _ _ _ p sk x (hP'.O _ hBa) ((ho'.O.below hal).view0 hsm.O) ⟨_,rfl,(jrP.O.below hal).sl (by omega)⟩).mono ?_
     rintro e W5 ⟨V1,rfl,AY,h5⟩;rw[YV.O]at AY
     rw[YV.O];simp only at AY ⊢
     have pq:=(AY).one;have xw:=vG (W5);go_wp2_with (refine dB (.tmp 15) (.tmp 49) dH V1 rfl xw rfl pq (λw6 lM Ib=>?_);refine aW ?_)
     unfold Hid;have sG:=qX Ib;have vT:=lM.lt;clear pq xw Ib;have h56:=(hal.trans (h5.mono hal.size)).trans (sG.mono (aY hal.size h5.size));have hb6:=ah (P5.O.below h56 lbx);have ho6:=ah (ho'.O.below h56);have jnk:=ah (hpl'.O.below h56 lpl);have jd9:=ah (AZ.O.below h56 AZ.O.lt);have hA6:=ah (hA'.O.below h56);have Sm:=hBr.trans (h56.mono hBr.size);have hV6:=ah ((AY.below sG).from_ hBa.size);have QB:=ah lM;have hnb:bx<W5.heap.size:=by have:=h5.size;have:=hal.size;omega
     clear P5 ho' hpl' AZ hA' hal hBa h5 h56 lM AY sG jrP YV hx' hx3;by_cases hc1:c1=0
     ·subst hc1;obtain⟨q0,q1,q2,q3,q4,q5,q6⟩:=QB.O.cells;have hone:=hV6.O.one;go_wp2_with (refine dB (.tmp 11) (.tmp 53) V V1 rfl hb6.O rfl hone (λw7 DR LC=>?_);refine aW ?_)
      unfold Hid;have hV7:=ah (show dK w7 w.heap.size V1 (wL p (l.take (k+1)) (begin p))by
       rw[jad.O,aB trivial];exact hV6.O.keptBy LC hb6.O.blk (by decide) (by decide) (by decide) (by decide) (by decide) (by decide))
      have jnj:=ah (jnk.O.grown LC (by intro he;injection he with he;omega))
      have jnT:=ah (jd9.O.grown LC (by intro he;injection he with he;omega))
      have hA7:=ah (hA6.O.kept LC hb6.O.blk (by decide) (by decide))
      have YW:=Sm.grown LC Sm.size (λj hj=>by injection hj with hj;omega)
      have SY:=ah DR;clear q0 q1 q2 q3 q4 q5 q6 DR LC hb6 ho6 jnk jd9 hA6 Sm hV6 QB jad hone;go_wp2_with fail;go_roundw
      case rel=>exact⟨k+1,V1,by omega,by go_num,SY.O,hV7.O,jnj.O,jnT.O,hA7.O,YW⟩
      case measure=>simp[RowKit.intOf];omega
     ·have hc1':(c1==0)=false:=by simpa using hc1
      have hV7:=ah (show dK w6 w.heap.size V (wL p (l.take (k+1)) (begin p))by
       rw[jad.O,ay hc1];exact ho6.O)
      clear hc1 jad ho6 hV6 QB;go_wp2_with fail;go_roundw
      case rel=>exact⟨k+1,V,by omega,by go_num,hb6.O,hV7.O,jnk.O,jd9.O,hA6.O,Sm⟩
      case measure=>simp[RowKit.intOf];omega
    ·obtain rfl:k=l.length:=by omega
     rw[fG]at hsk'
     have lG:=dK.one ho'.O;go_wp2_with (refine dB (.tmp 4) (.tmp 55) dH V rfl AZ.O rfl lG (λw9 dM je=>?_))
     have wC:=dK.keptBy ho'.O je AZ.O.blk (by decide) (by decide) (by decide) (by decide) (by decide) (by decide)
     obtain⟨p0,p1,p2,p3,p4,p5,p6⟩:=jk.cells dM;have dN:=Below.gB hBr je;clear b0 b1 b2 b3 b4 b5 b6;go_wp2_with fail;exact fD (v:=.tuple #[V.val,.int .i64 l.length,.int .i64 0]) (by simp[results,results33,go_sem,SV.val,p0,p1,p2,p3,p4,p5,p6]) rfl ⟨V,by rw[bK.O],by rw[bK.O,hsk'.O];exact wC,dN⟩
  ·have hne:(lc !=0)=true:=by simpa using hlc
   have bK:=ah (show sS p t=(jD,0,lc)by
    unfold sS;rw[ay (λh=>h hz),hre,aB hlc])
   clear hlc hre;go_wp2_with (refine dB (.tmp 4) (.tmp 31) dH dH rfl Ji.O rfl rfl (λw9 dM je=>?_))
   obtain⟨p0,p1,p2,p3,p4,p5,p6⟩:=jk.cells dM;have dN:=Below.gB hB2 je;go_wp2_with fail;exact fD (v:=.tuple #[dH.val,.int .i64 0,.int .i64 lc]) (by simp[results,results33,go_sem,SV.val,p0,p1,p2,p3,p4,p5,p6]) rfl ⟨dH,by rw[bK.O],by rw[bK.O];exact dK.zero _ _,dN⟩
 ·have hne:(gQ p !=0)=true:=by simpa using hz
  have bK:=ah (show sS p t=(jD,0,gQ p)by unfold sS;rw[aB hz])
  clear hz;go_wp2_with (refine dB (.tmp 4) (.tmp 21) dH dH rfl Qz.O rfl rfl (λw9 dM je=>?_))
  obtain⟨p0,p1,p2,p3,p4,p5,p6⟩:=jk.cells dM;have dN:=Below.gB hB1 je;go_wp2_with fail;exact fD (v:=.tuple #[dH.val,.int .i64 0,.int .i64 (gQ p)]) (by simp[results,results33,go_sem,SV.val,p0,p1,p2,p3,p4,p5,p6]) rfl ⟨dH,by rw[bK.O],by rw[bK.O];exact dK.zero _ _,dN⟩
end Wh
namespace Wh
open Go Go.RowKit Go.Shelf Go.Proofs Tryz
attribute [local go_sem] aT jW jm kC
theorem Ul(a b:List Nat):pz a++pz b=pz (a++b):=by
 unfold pz;rw[fJ];apply ByteArray.ext;simp
def Rn:List Nat:=[1,1,0,0,5,0]
def Rl:List Nat:=[2,0,0,0,0,1,1,9,0,0]
theorem jsr:IU ⟨1,1,0,0,5,[]⟩=(Rn,0):=by decide+kernel
theorem jsq:IU ⟨2,0,0,0,0,[⟨1,9,0,0⟩]⟩=(Rl,0):=by decide+kernel
theorem jsp:IU ⟨0,0,0,0,256,[]⟩=([],3):=by decide+kernel
theorem jst:(qj (Rn++Rl++[1])).1.length=2:=by decide+kernel
theorem jss:(qj (Rn++Rl++[1])).2=(16,0):=by decide+kernel
theorem jsu:∀n∈Rn++Rl++[1],n<256:=by decide+kernel
theorem joy:∀n∈Rn++Rl,n<256:=by decide+kernel
def lgS:aJ:=(sS TD (Rn++Rl)).1
theorem jox:sS TD (Rn++Rl)=(lgS,2,0):=Prod.ext rfl (by decide+kernel)
theorem jhN:lgS.on.length=3:=by decide+kernel
theorem je8:(fO lgS.on 1).length=2:=by decide+kernel
theorem jhO:cell lgS.on 1 0=5:=by decide+kernel
theorem jdG:lgS.ak.length=1:=by decide+kernel
theorem jsv:act TD Xo ⟨0,0,0,0,0,[]⟩=(jD,8):=by decide+kernel
theorem Rk(w:World):Calls prog 15 #[] w λe w'=>e=.returned (.bool true)/\Below w.heap.size w w':=by
 go_enter func15,ntmps15
 go_wp2_with fail;refine(ZP w _ ⟨1,1,0,0,5,[]⟩ ⟨_,rfl,Sl.nil⟩ (by simp)).mono ?_
 rintro e W1 ⟨rfl,h1⟩;rw[jsr];go_wp2_with fail;have h2a:Below W1.heap.size W1 (W1.alloc (.cells #[.int .i64 1,.int .i64 9,.int .i64 0,.int .i64 0] 44)):=(aj _ _).alloc (au _) _;have hl2:Sl kP (W1.alloc (.cells #[.int .i64 1,.int .i64 9,.int .i64 0,.int .i64 0] 44)) (W1.alloc (.cells #[.int .i64 1,.int .i64 9,.int .i64 0,.int .i64 0] 44)).heap.size (.slice (some ⟨W1.heap.size,0,none⟩) 1 1) [⟨1,9,0,0⟩]:=
  (Own.lit (enc:=kP) (size:=4) (aO:=W1.heap.size) W1 44 #[.int .i64 1,.int .i64 9,.int .i64 0,.int .i64 0] [(⟨1,9,0,0⟩:Line)] (au _) (by simp) (λ_=>rfl) rfl).sl (by simp)
 generalize W1.alloc (.cells #[.int .i64 1,.int .i64 9,.int .i64 0,.int .i64 0] 44)=Wa at h2a hl2 ⊢
 refine(ZP Wa _ ⟨2,0,0,0,0,[⟨1,9,0,0⟩]⟩ ⟨_,rfl,hl2⟩ (by simp)).mono ?_
 rintro e W2 ⟨rfl,h2⟩;rw[jsq];have hB2:=h1.trans ((h2a.trans (h2.mono h2a.size)).mono h1.size);clear h1 h2a h2 hl2;have e1:pz Rn++pz Rl=pz (Rn++Rl):=Ul _ _;have e2:pz (Rn++Rl)++(ByteArray.mk #[1])=pz (Rn++Rl++[1]):=by rw[<- Ul];rfl
 go_wp2_with fail;refine(jby W2 (Rn++Rl++[1]) jsu).mono ?_
 rintro e W3 ⟨vl,rfl,hA3,h3⟩;obtain⟨Al,cl,rfl⟩:=hA3.isSlice;rw[jst,jss];have hB3:=hB2.trans (h3.mono hB2.size);clear hA3 h3 hB2;go_wp2_with fail;refine(jlZ _).mono ?_
 rintro e W4 ⟨u4,rfl,hu4,h4⟩;have hB4:=hB3.trans (h4.mono hB3.size);clear h4 hB3;go_wp2_with fail;refine(YN W4 _ TD (Rn++Rl) hu4 joy).mono ?_
 rintro e W5 ⟨V5,rfl,AY,h5⟩;rw[jox]at AY ⊢
 simp only at AY ⊢
 have pq:=(AY).one;have xw:=vG (W5);go_wp2_with (refine dB (.tmp 8) (.tmp 42) dH V5 rfl xw rfl pq (λw6 lM Ib=>?_);refine aW ?_)
 unfold Hid;have sG:=qX Ib;have vT:=lM.lt;clear pq xw Ib;have Sm:=hB4.trans ((h5.trans (sG.mono h5.size)).mono hB4.size);have ho6:=ah (AY.below sG);have QB:=ah lM;clear AY sG lM h5 hB4 hu4;generalize W5.heap.size=b8 at QB vT ⊢
 go_wp2_with fail;refine(ZP w6 _ ⟨0,0,0,0,256,[]⟩ ⟨_,rfl,Sl.nil⟩ (by simp)).mono ?_
 rintro e W7 ⟨rfl,h7⟩;rw[jsp];have YW:=Sm.trans (h7.mono Sm.size);have Ia:=ah (ho6.O.below h7);have DR:=ah (QB.O.below h7 vT);clear Sm ho6 QB h7 vT;go_wp2_with fail;refine(jlZ _).mono ?_
 rintro e W8 ⟨u8,rfl,hu8,h8⟩;go_wp2_with fail;refine(jqs _).mono ?_
 rintro e W9 ⟨V9,rfl,E8,h9⟩;go_wp2_with fail;refine(jm2 W9 _ _ _ TD Xo ⟨0,0,0,0,0,[]⟩ (hu8.grow h9) (E8.view0 (by decide)) ⟨_,rfl,Sl.nil⟩).mono ?_
 rintro e W10 ⟨V10,rfl,SL,h10⟩;rw[jsv]at SL ⊢
 simp only at SL ⊢
 have jin:=(SL).one;have jmb:=vG (W10);go_wp2_with (refine dB (.tmp 13) (.tmp 55) dH V10 rfl jmb rfl jin (λw11 jiW jgd=>?_);refine aW ?_)
 unfold Hid;have jmm:=qX jgd;have jrq:=jiW.lt;clear jin jmb jgd;have jlk:=h8.trans ((h9.trans ((h10.trans (jmm.mono h10.size)).mono h9.size)).mono h8.size);have hB:=YW.trans (jlk.mono YW.size);have hA:=Ia.O.below jlk;have hbA:=DR.O.below jlk DR.O.lt;clear Ia DR jlk YW h8 h9 h10 jmm jiW jrq SL E8 hu8;obtain⟨pA0,pA1,_,_,_,_,_⟩:=hbA.cells;obtain⟨Ic,con,PE,gr,cr,cur,Ot,_,_,r0,_,_,_,rc⟩:=hA.Py (b:=1) (g:=0) (by rw[jhN];decide) (by rw[je8];decide)
 rw[jhN]at Ot
 rw[je8]at r0
 rw[jhO]at rc
 rw[Ot]at pA0
 obtain⟨Ao,co,vO⟩:=hA.EL;rw[jdG]at vO
 rw[vO]at pA1
 have q1:(pz Rn).toList=(ByteArray.mk #[1,1,0,0,5,0]).toList:=by rw[xX,xX];rfl
 have q2:(pz Rl).size=10:=by rw[Gy];rfl
 clear hA hbA Ot vO e1 e2;go_wp2_with fail;go_ret
 exact⟨rfl,hB⟩
end Wh
namespace Wh
open Go Go.RowKit Go.Shelf Go.Proofs Tryz
attribute [local go_sem] aT jW jm kC
def qG(s:aJ)(i k:Nat):List dZ:=(s.aA.take k).filter λh=>decide (h.aC≠(i:Int))
theorem ZG{s:aJ}{i k:Nat}(hk:k<s.aA.length)(h:(hold s.aA k).aC≠(i:Int)):qG s i (k+1)=qG s i k++[hold s.aA k]:=by
 unfold qG;rw[iL hk]at h ⊢
 exact Hu hk _ (by simpa using h)
theorem jbi{s:aJ}{i k:Nat}(hk:k<s.aA.length)(h:(hold s.aA k).aC=(i:Int)):qG s i (k+1)=qG s i k:=by
 unfold qG;rw[iL hk]at h
 exact Fe hk _ (by simpa using h)
theorem ZI(s:aJ)(i:Nat):qG s i s.aA.length=s.aA.filter λh=>decide (h.aC≠(i:Int)):=by unfold qG;rw[fG]
theorem ZH(s:aJ)(i k:Nat):(qG s i k).length<=s.aA.length:=by
 unfold qG;have h1:=kY (λh:dZ=>decide (h.aC≠(i:Int))) (s.aA.take k)
 rw[bT]at h1
 omega
def jaT(s:aJ)(l:List dZ):aJ:={s with aA:=l}
theorem jfR(w:World)(v vs:Value)(p:dA)(s:aJ)(o:Int)(hp:mW w w.heap.size v p)(hv:lK w w.heap.size vs s):
  Calls prog 54 #[v,vs,.int .i64 o] w (nN (zJ p s o) w):=by
 obtain⟨Ab,cb,As,cs,rfl,hP',hBn,hSz,hlb,hls⟩:=sN hp;obtain⟨A0,c0,A1,c1,A2,c2,A3,c3,A4,c4,A5,c5,A6,c6,rfl,hV,hN,hO,hH,hM,hI,hU,hX,hl0,hl1,hl2,hl3,hl4,hl5,JA⟩:=oW hv;go_enter func54,ntmps54
 go_wp2_with fail;obtain⟨W0,hW0,hb0,lg,uZ,hsE,hK,hR⟩:=yD w p s Ab cb As cs A0 c0 A1 c1 A2 c2 A3 c3 A4 c4 A5 c5 A6 c6;rw[hW0];clear hW0;obtain⟨⟨y0,y1⟩,x0,x1,x2,x3,x4,x5,x6,eP,eU⟩:=hK.O W0 (aj W0.heap.size W0);go_wp2_with fail;clear y0 y1 x0 x1 x2 x3 x4 x5 x6 eP eU;refine(Ag _ _ _ p s (hP'.O _ hb0) (hV.O _ hb0)).mono ?_
 rintro e W1 ⟨rfl,h1⟩;have hB1:=hb0.trans (h1.mono hb0.size);obtain⟨⟨y0,y1⟩,x0,x1,x2,x3,x4,x5,x6,eP,eU⟩:=hK.O W1 (h1);by_cases hc:aQ p s=0
 ·have hc':=ah hc;have hsn:=ah (kM.1 hc).1;have h4:=hsn.O.qH;rw[hc];clear hc;have hw4:IntKind.i64.wrap ((s.ak.length:Int) - 1)=(s.ak.length:Int) - 1:=aN _ (by omega)
  cases g1:cZ o 0 ((s.ak.length:Int) - 1)
  ·have bK:=ah (OI (o:=o) hc'.O (by have:=nU.1 g1;omega))
   go_wp2_with fail;refine(Fb g1 _).mono ?_
   rintro e w' ⟨rfl,rfl⟩;clear g1;have fH:=hR.O _ h1;go_wp2_with (refine dB (.tmp 6) (.tmp 26) dH dH rfl fH rfl rfl (λw9 dM je=>?_))
   have dN:=Below.gB hB1 je;go_wp2_with fail;exact jo results54 dM rfl rfl (jQ bK.O dN)
  have g1':=dV.1 g1;obtain⟨i,rfl⟩:∃i:Nat,o=i:=⟨o.toNat,by omega⟩
  have hi:i<s.ak.length:=by omega
  have hi':(i:Int)<s.ak.length:=by omega
  go_wp2_with fail;refine(Fb g1 _).mono ?_
  rintro e w' ⟨rfl,rfl⟩;clear g1 g1' hw4;obtain⟨Al,cl,ol,ll,d0,d1,hsl⟩:=(hO.O W1 hB1).aC hi;change W1.cell? _=some (Value.int IntKind.i64 (s.aC i).dW)at d0
  by_cases hk:(s.aC i).dW=2
  ·have bK:=ah (Uj hc'.O hi hk);rw[hk]at d0
   clear hk;have fH:=hR.O _ h1;go_wp2_with (refine dB (.tmp 6) (.tmp 34) dH dH rfl fH rfl rfl (λw9 dM je=>?_))
   have dN:=Below.gB hB1 je;go_wp2_with fail;exact jo results54 dM rfl rfl (jQ bK.O dN)
  have bK:=ah (Zc hc'.O hi hk);have hq:((s.aC i).dW==2)=false:=by simpa using hk
  clear hk;go_wp2_with fail;clear y0 y1 x0 x1 x2 x3 x4 x5 x6 eP eU;clear d0 d1 hsl hq;refine(EI _ _ p s (hV.O _ hB1) hsn.O).mono ?_
  rintro e W5 ⟨_,rfl,⟨V5,rfl,AY⟩,h5⟩;have pq:=(AY).one;have xw:=vG (W5);go_wp2_with (refine dB (.tmp 9) (.tmp 36) dH V5 rfl xw rfl pq (λw6 lM Ib=>?_);refine aW ?_)
  unfold Hid;have sG:=qX Ib;have vT:=lM.lt;clear pq xw Ib;have hx6:=ah (Bx.of lM (AY.below sG));have h06:=h1.trans ((h5.trans (sG.mono h5.size)).mono h1.size);have hle:w.heap.size<=W1.heap.size:=hB1.size;have hle0:W0.heap.size<=W1.heap.size:=h1.size;have zZ:W1.heap.size<=W5.heap.size:=h5.size;clear lM AY sG h5 vT h1 hB1;generalize W1.heap.size=aO at hx6 hle hle0 zZ
  generalize W5.heap.size=bx at hx6 zZ ⊢
  obtain⟨Ao,co,hvo⟩:=hx6.O.own.EL;have Gp:=ah hvo;clear hvo;have h72:=su hsn.O.aA;go_wp2_with (refine Ig rfl (.tmp 37) (.const (.slice none 0 0)) rfl rfl none 0 0 (V:=V5) (V':={V5 with aA:=.slice none 0 0}) (s':={s with aA:=[]}) (cs:=[]) (b:=bx) (by rw[iJ];exact hx6.O.uK.blk) (hx6.O.own.jhH (aj _ _) Own.nil) Xp rfl rfl rfl (λw8 KQ AX=>?_);refine aW ?_)
  unfold Hid;have DY:=h06.trans (AX.below (B:=W0.heap.size) (λq hq=>by omega) h06.size)
  have KQ:Bx w8 aO bx 31 [] {V5 with aA:=.slice none 0 0} (jaT s (qG s i 0)):=KQ
  have vP:=ah KQ;clear KQ AX hx6 h06;go_wp2_with fail;go_loopw[10] (λj wr=>∃(k:Nat) (V:SV),V={V5 with aA:=V.aA}/\k<=s.aA.length/\j=.int .i64 k/\Bx wr aO bx 31 [] V (jaT s (qG s i k))/\Below W0.heap.size W0 wr) (λj _=>s.aA.length - (RowKit.intOf j).toNat)
  case atStart=>exact⟨0,_,rfl,aK _,rfl,vP.O,DY⟩
  case round=>
   clear vP DY;obtain⟨k,V,Xv,hkl,rfl,hx,h0⟩:=hrel;have hx':=ah hx;have KC:=ah Xv;clear hx Xv;obtain⟨⟨y0,y1⟩,x0,x1,x2,x3,x4,x5,x6,eP,eU⟩:=hK.O wr (h0);by_cases hkt:k<s.aA.length
   ·have hki:(k:Int)<(s.aA.length:Int):=by omega
    have hB0:=hb0.trans (h0.mono hb0.size);obtain⟨jnn,Td,q0,q1,q2,q3⟩:=(hH.O wr hB0).at_.hold hkt;by_cases hne:(hold s.aA k).aC=(i:Int)
    ·have hq:((hold s.aA k).aC !=(i:Int))=false:=by simpa using hne
     have hx2:=ah (show Bx wr aO bx 31 [] V (jaT s (qG s i (k+1)))by rw[jbi hkt hne];exact hx'.O)
     clear hne;go_wp2_with fail;go_roundw
     case rel=>exact⟨k+1,V,KC.O,by omega,by go_num,hx2.O,h0⟩
     case measure=>simp[RowKit.intOf];omega
    ·have hq:((hold s.aA k).aC !=(i:Int))=true:=by simpa using hne
     have hyes:=ah (ZG hkt hne);have hol:=ah (ZH s i k);obtain⟨Ah,ch,hvh⟩:=hx'.O.own.aA.isSlice;have jh7:=ah (show V.aA=.slice Ah (qG s i k).length ch from hvh)
     have vS:=ah (λr (hr:V.aA.ownBlock=some r)=>hx'.O.own.aA.size r hr)
     have hbs:aO<=wr.heap.size:=by have:=hx'.O.lt;omega
     have hTB:=ah (λw' (hT:wr.grownBy w' V.aA.ownBlock)=>(h0.grown hT h0.size (λr hr=>by have:=(vS.O r hr).1;omega):Below W0.heap.size W0 w'))
     have Jk:=ah (show some bx≠V.aA.ownBlock from λhe=>by
      rcases hx'.O.own.aA.mQ hx'.O.uK.blk (by decide)with h|h
      ·rw[h]at he;cases he
      ·exact h he.symm)
     have hnew:=ah (λg (hg:wr.heap.size<=g)=>(show some g≠V.aA.ownBlock from λhe=>by have:=(vS.O g he.symm).2;omega))
     have hh4:=ah (λw' (hB:Below W0.heap.size W0 w')=>(show _ from(hH.O w' (hb0.trans (hB.mono hb0.size))).at_.hold hkt))
     have jl8:=ah jnn;clear hne hvh;go_wp2_with fail;clear y0 y1 x0 x1 x2 x3 x4 x5 x6 eP eU;clear q0 q1 q2 q3 hq Td jnn;refine Fa 10 (λw'=>wr.grownBy w' V.aA.ownBlock) (λw'=>Below wr.heap.size wr w') (λw1 w2=>w1.grownBy w2 V.aA.ownBlock) 8 [
      λg _=>g 53=.pointer (some ⟨bx,2,none⟩),λg _=>g 54=.slice Ah (qG s i k).length ch,λg _=>g 55=.pointer (some ⟨w.heap.size+1,2,none⟩),λg _=>g 56=.slice A2 s.aA.length c2,λg _=>g 57=.int .i64 k,λg _=>g 58=.pointer (some ⟨jd A2,ou A2+k*4,none⟩),λg _=>g 59=.agg #[.int .i64 (hold s.aA k).aC,.int .i64 (hold s.aA k).aG,.int .i64 (hold s.aA k).bin,.int .i64 (hold s.aA k).n],λg w'=>(λv w'=>∃b,v=.slice (some ⟨b,0,none⟩) 1 1/\wr.heap.size<=b/\iV w' b 46 [.int .i64 (hold s.aA k).aC,.int .i64 (hold s.aA k).aG,.int .i64 (hold s.aA k).bin,.int .i64 (hold s.aA k).n]) (g 60) w',λg w'=>Own ig 4 46 w' aO (g 61) (qG s i k++[hold s.aA k]),λg _=>g 62=.pointer (some ⟨bx,2,none⟩)] (by kernel_rfl) (by kernel_rfl) rfl (by kernel_rfl)
      (λw1 w2 h hb=>JX h (nV hb)) (λw1 w2 h h'=>JX h h') (λw1 w2 h hb=>h.trans (hb.mono h.size)) (nV (aj _ _).drew) (aj _ _).drew ?_ (λf w2 hT hR=>?_)
     ·simp only[bC,bV];refine iW.cons (mX.val rfl rfl (by decide) (λg w' hT ho hd=>?_)) ?_
      ·have e1:=ho 9 rfl;go_simp
      refine iW.cons (mX.val rfl rfl (by decide) (λg w' hT ho hd=>?_)) ?_
      ·have e1:g 53=.pointer (some ⟨bx,2,none⟩):=hd ⟨0,.data⟩ (by simp) rfl (by decide)
       have y1:=(hx'.O.uK.grown hT Jk.O).cells.2.2.1;rw[jh7.O]at y1
       go_simp
      refine iW.cons (mX.val rfl rfl (by decide) (λg w' hT ho hd=>?_)) ?_
      ·have e1:=ho 4 rfl;go_simp
      refine iW.cons (mX.val rfl rfl (by decide) (λg w' hT ho hd=>?_)) ?_
      ·have e1:g 55=.pointer (some ⟨w.heap.size+1,2,none⟩):=hd ⟨2,.data⟩ (by simp) rfl (by decide)
       obtain⟨⟨y0,y1⟩,x0,x1,x2,x3,x4,x5,x6,eP,eU⟩:=hK.O w' (hTB.O w' hT);go_simp
      refine iW.cons (mX.val rfl rfl (by decide) (λg w' hT ho hd=>?_)) ?_
      ·have e1:=ho 10 rfl;go_simp
      refine iW.cons (mX.val rfl rfl (by decide) (λg w' hT ho hd=>?_)) ?_
      ·have e1:g 56=.slice A2 s.aA.length c2:=hd ⟨3,.data⟩ (by simp) rfl (by decide)
       have e2:g 57=.int .i64 k:=hd ⟨4,.data⟩ (by simp) rfl (by decide)
       have jnn:=jl8.O;go_simp
      refine iW.cons (mX.val rfl rfl (by decide) (λg w' hT ho hd=>?_)) ?_
      ·have e1:g 58=.pointer (some ⟨jd A2,ou A2+k*4,none⟩):=hd ⟨5,.data⟩ (by simp) rfl (by decide)
       obtain⟨_,_,q0,q1,q2,q3⟩:=hh4.O w' (hTB.O w' hT);go_simp
      refine iW.cons (mX.one (d:=60) (p:=λv w'=>∃b,v=.slice (some ⟨b,0,none⟩) 1 1/\wr.heap.size<=b/\iV w' b 46 [.int .i64 (hold s.aA k).aC,.int .i64 (hold s.aA k).aG,.int .i64 (hold s.aA k).bin,.int .i64 (hold s.aA k).n]) rfl rfl (by decide) (λv w1 w2 h hb=>h.elim λb h=>⟨b,h.1,h.2.1,h.2.2.below hb h.2.2.lt⟩) (λv w1 w2 h hb=>h.elim λb h=>⟨b,h.1,h.2.1,h.2.2.grown hb (hnew.O b h.2.1)⟩) (λg w' hT ho hd=>?_)) ?_
      ·have e1:g 59=.agg #[.int .i64 (hold s.aA k).aC,.int .i64 (hold s.aA k).aG,.int .i64 (hold s.aA k).bin,.int .i64 (hold s.aA k).n]:=hd ⟨6,.data⟩ (by simp) rfl (by decide)
       unfold iT;go_simp
       exact⟨⟨hT.size,iV.new _ _ _⟩,(aj _ _).alloc (au _) _⟩
      refine iW.cons ⟨λg w1 w2 h hb=>h.below hb,λhne=>absurd rfl hne,λg g' w1 he h=>?_,λg w' hT hJ ho hd=>?_⟩ ?_
      ·have e61:=he 8 _ 61 (.self 8) rfl rfl;simp only[e61]at h
       exact h
      ·have e1:g 54=.slice Ah (qG s i k).length ch:=hd ⟨1,.data⟩ (by simp) rfl (by decide)
       obtain⟨gb,e3,hgb,Cc⟩:∃b,g 60=.slice (some ⟨b,0,none⟩) 1 1/\wr.heap.size<=b/\iV w' b 46 [.int .i64 (hold s.aA k).aC,.int .i64 (hold s.aA k).aG,.int .i64 (hold s.aA k).bin,.int .i64 (hold s.aA k).n]:=hd ⟨7,.data⟩ (by simp) rfl (by decide)
       have lC:Own ig 4 46 w' aO V.aA (qG s i k):=hx'.O.own.aA.below (hJ rfl);have hol1:=hol.O;obtain⟨ii,hi,hz,G8,hbytes⟩:=yc;obtain⟨v',w3,hr,hown3,hg3,_,_⟩:=run_append_own_at (P:=prog) w' aO 28 28 46 ii _ 4 32 underlying28 hi hz G8 hbytes rfl (by decide) V.aA _ _ lC ⟨gb,0,none⟩ 1 1 (ig (hold s.aA k)) rfl
        (λj u hj=>by rw[gU,eY];exact Cc.cell hj) (zu _) (by unfold maxLen;omega) (by omega) (aY hbs hT.size)
       rw[jh7.O]at hr
       unfold iT;simp only[execOp,resolve,invoke,builtin,jW,e1,e3,jg,jw,iC,kJ,dn,jL,hr];refine⟨?_,.inr ⟨trivial,hg3⟩⟩
       have h2:Own ig 4 46 w3 aO v' (qG s i k++[hold s.aA k]):=by
        unfold Own;rw[aZ,gy];simpa using hown3
       simpa[qI,upd]using h2
      refine iW.cons (mX.val rfl rfl (by decide) (λg w' hT ho hd=>?_)) ?_
      ·have e1:=ho 9 rfl;go_simp
      exact iW.nil
     ·obtain⟨r0,r1,r2,r3,r4,r5,r6,⟨gb,r7,_,_⟩,hv,r9,_⟩:=hR;simp only[kG,zB,bC,bV,eG,gW,eX,fF,fB,gV,bM,dF,dL,r0,r1,r2,r3,r4,r5,r6,r7,r9];clear r0 r1 r2 r3 r4 r5 r6 r7 r9;rw[<- hyes.O]at hv
      obtain⟨Av,cv,hv7⟩:=hv.isSlice;rw[hv7]at hv
      simp only[hv7];have X6:=hx'.O.own.U4 hT hv;have hb7:=hx'.O.uK.grown hT Jk.O;have h07:=hTB.O w2 hT;clear hv7 hv;refine Ig rfl (.tmp 62) (.tmp 61) rfl rfl Av (qG s i (k+1)).length cv (V:=V) (cs:=[]) (b:=bx) (by rw[iJ];exact hb7.blk) X6 Xp rfl rfl rfl (λw8 KQ AX=>?_)
      refine fC ?_
      have DY:=h07.trans (AX.below (B:=W0.heap.size) (λq hq=>by omega) h07.size)
      have vP:=ah (show Bx w8 aO bx 31 [] {V with aA:=.slice Av (qG s i (k+1)).length cv} (jaT s (qG s i (k+1)))from KQ)
      have hV8:=ah (show({V with aA:=.slice Av (qG s i (k+1)).length cv}:SV)={V5 with aA:=.slice Av (qG s i (k+1)).length cv}by rw[KC.O])
      clear KQ AX X6 hb7 h07 hT hx' vS hTB Jk hnew hh4 jl8 hyes hol;go_wp2_with fail;go_roundw
      case rel=>exact⟨k+1,_,hV8.O,by omega,by go_num,vP.O,DY⟩
      case measure=>simp[RowKit.intOf];omega
   ·obtain rfl:k=s.aA.length:=by omega
    have hx7:=ah (show Bx wr aO bx 31 [] V (jaT s (s.aA.filter λh=>decide (h.aC≠(i:Int))))by rw[<- ZI];exact hx'.O)
    obtain⟨l7,hl7⟩:∃l7,(s.aA.filter λh=>decide (h.aC≠(i:Int)))=l7:=⟨_,rfl⟩
    have hfl:=ah hl7;rw[hl7]at hx7
    have jbM:=ah (show V.ak=.slice Ao s.ak.length co by rw[KC.O];exact Gp.O)
    clear hx' hl7 Gp KC;obtain⟨go,_,_,eo,-⟩:=hx7.O.own.aU (o:=i) hi;rw[jbM.O]at eo
    injection eo with eo e2 e3
    subst eo;clear e2 e3;obtain⟨hgo,jgc,z0,z1⟩:=hx7.O.own.oP (o:=i) hi jbM.O;have c1:=hx7.O.cells.2.1;rw[jbM.O]at c1
    go_wp2_with (refine F6 rfl (.tmp 67) (.const (.int .i64 2)) rfl rfl (i:=i) (q:=2) hx7.O hi jbM.O rfl rfl (λw9 uO wJ=>?_);refine aW ?_)
    unfold Hid;clear y0 y1 x0 x1 x2 x3 x4 x5 x6 eP eU;have uO:Bx w9 aO bx 31 [] V (FN s l7 i 0):=by rw[<- Xl];exact uO
    have h09:=h0.trans (wJ.below (B:=W0.heap.size) (λq hq=>by omega) h0.size)
    have Dj:=ah uO;clear wJ uO z0 z1 c1 hx7 h0;have l13:=hsn.O.tN hi;obtain⟨gl,cl,e1,hgl⟩:=Dj.O.own.Dx (o:=i) (by rw[Lm];exact hi) (by rw[EX hi];omega)
    rw[EX hi]at e1
    have e1':=ah e1;clear e1;go_wp2_with fail;go_loopw[11] (λj wr=>∃k:Nat,k<=(s.aC i).aH.length/\j=.int .i64 k/\Bx wr aO bx 31 [] V (FN s l7 i k)/\Below W0.heap.size W0 wr) (λj _=>(s.aC i).aH.length - (RowKit.intOf j).toNat)
    case atStart=>exact⟨0,aK _,rfl,Dj.O,h09⟩
    case round=>
     clear Dj h09;obtain⟨k,hkl,rfl,hx,h0⟩:=hrel;have hx':=ah hx;clear hx;have hon:i<(FN s l7 i k).ak.length:=by rw[Lm];exact hi
     obtain⟨_,_,_,z1⟩:=hx'.O.own.oP hon jbM.O;rw[e1'.O]at z1
     have c1:=hx'.O.cells.2.1;rw[jbM.O]at c1
     have jbT:=ah hon;clear hon;by_cases hkt:k<(s.aC i).aH.length
     ·have hki:(k:Int)<((s.aC i).aH.length:Int):=by omega
      have hkn:k<((FN s l7 i k).aC i).aH.length:=by rw[EX hi];exact hkt
      obtain⟨XZ,f0,f1,f2,f3⟩:=hx'.O.own.sV jbT.O hkn e1'.O;rw[MR hi hkt]at f1 f2
      have hlr:=hsn.O.aG hi hkt;have hwr:IntKind.i64.wrap ((s.aG i k).iw - (s.aG i k).oh)=(s.aG i k).iw - (s.aG i k).oh:=by rw[jY];omega
      have Wj:=ah hx'.O.drew;have hkn':=ah hkn;clear f0 f3 hlr hkn;go_wp2_with fail;go_still_tail 30,(by kernel_rfl)
      change wpList _ _ _ _ _ wr.drew;refine AO rfl (.tmp 108) (.tmp 106) rfl rfl (j:=3) (y:={s.aG i k with dP:=(s.aG i k).iw - (s.aG i k).oh}) Wj.O jbT.O hkn'.O e1'.O (by decide) (by rw[MR hi hkt];rfl) rfl rfl (λw9 uO wJ=>?_)
      refine fC ?_
      rw[Xm hi hkt]at uO
      have h09:=h0.drew.trans (wJ.below (B:=W0.heap.size) (λq hq=>by omega) h0.drew.size)
      have Dj:=ah uO;clear wJ uO z1 f1 f2 c1 hx' Wj hwr;go_wp2_with fail;go_roundw
      case rel=>exact⟨k+1,by omega,by go_num,Dj.O,h09⟩
      case measure=>simp[RowKit.intOf];omega
     ·obtain rfl:k=(s.aC i).aH.length:=by omega
      have hB0:=hb0.trans (h0.mono hb0.size);have hx2:=ah (show Bx wr aO bx 31 [] V (xE s i)by rw[<- Zd,hfl.O];exact hx'.O)
      have hvv:=jbM.O;clear hx' jbM e1';obtain⟨a0,a1,a2,a3,a4,a5,a6,a7,a8⟩:=V;obtain rfl:a1=.slice (some ⟨go,0,none⟩) s.ak.length co:=hvv;have fH:=hR.O _ h0;obtain⟨b0,b1,b2,b3,b4,b5,b6⟩:=jk.cells hx2.O.uK;have lG:=dK.one hx2.O.own;go_wp2_with (refine dB (.tmp 6) (.tmp 109) dH (⟨a0,.slice (some ⟨go,0,none⟩) s.ak.length co,a2,a3,a4,a5,a6,a7,a8⟩:SV) rfl fH rfl lG (λw9 dM je=>?_))
      have wC:=dK.keptBy hx2.O.own je fH (by decide) (by decide) (by decide) (by decide) (by decide) (by decide)
      have dN:=Below.gB hB0 je;clear b0 b1 b2 b3 b4 b5 b6;go_wp2_with fail;exact jo results54 dM rfl rfl (EZ bK.O (wC.from_ hle) dN)
 ·have hne:(aQ p s !=0)=true:=by simpa using hc
  have bK:=ah (Xk (o:=o) hc);clear hc;have fH:=hR.O _ h1;go_wp2_with (refine dB (.tmp 6) (.tmp 17) dH dH rfl fH rfl rfl (λw9 dM je=>?_))
  have dN:=Below.gB hB1 je;go_wp2_with fail;exact jo results54 dM rfl rfl (jQ bK.O dN)
end Wh
namespace Wh
open Go Go.RowKit Go.Shelf Go.Proofs Tryz
attribute [local go_sem] aT jW jm kC
def Si(v:Value):Prop:=∃v0 v1 v2 A n c v4 v5 v6,v=.agg #[v0,v1,v2,.slice A n c,v4,v5,v6]/\n<=c
theorem Si.at{v0 v1 v2 v4 v5 v6:Value}{A:Option Addr}{n c:Nat}(h:Si (.agg #[v0,v1,v2,.slice A n c,v4,v5,v6])):n<=c:=by
 obtain⟨_,_,_,_,_,_,_,_,_,e,h⟩:=h;injection e with e
 simp only[Array.mk.injEq,List.cons.injEq,mD]at e
 obtain⟨_,_,_,e3,_⟩:=e;injection e3 with e1 e2 e3
 omega
theorem GH(w:World)(aO:Nat)(v:Value)(l m:List Move)(lC:Own nP 4 48 w aO v l)(g o c B:Nat)(hA:At w B (some ⟨g,o,none⟩) (m.flatMap nP))(hn:l.length+m.length<=1000)(rV:aO<=w.heap.size):
  ∃v' w',(Builtin.append_ #[29,29] 29 #[v,.slice (some ⟨g,o,none⟩) m.length c]).run prog w=.ok v' w'/\Own nP 4 48 w' aO v' (l++m)/\w.grownBy w' v.ownBlock/\Below aO w w':=by
 obtain⟨ii,hi,hz,G8,hbytes⟩:=KO;obtain⟨v',w3,hr,hown3,hg3,_,_⟩:=run_append_own_at (P:=prog) w aO 29 29 48 ii _ 4 32 underlying29 hi hz G8 hbytes rfl (by decide) v _ _ lC ⟨g,o,none⟩ m.length c (m.flatMap nP) (kL nP 4 (λ_=>rfl) m)
  (λj u hj=>by rw[gU];exact hA.cell hj) (λu hu=>by obtain⟨y,_,hy⟩:=oL.1 hu;exact O4 y u hy) (by unfold maxLen;omega) (by omega) rV
 refine⟨v',w3,hr,?_,hg3,(aj _ _).grown hg3 rV λk hk=>(nK lC k hk).1⟩
 unfold Own;rw[aZ,gy];exact hown3
theorem At.head{w:World}{B:Nat}{A:Option Addr}{xs ys:List Value}(h:At w B A (xs++ys)):At w B A xs:=λhn=>by
 obtain⟨h1,h2,h3⟩:=h (by simp[hn])
 refine⟨h1,h2,λj v hj=>h3 j v ?_⟩
 rw[fE (by
  have:=(eF.1 hj).1
  exact this)]
 exact hj
theorem jhn(w:World)(v vs:Value)(p:dA)(s:aJ)(k n:Int)(hp:mW w w.heap.size v p)(hv:lK w w.heap.size vs s)(hcap:Si vs):
  Calls prog 57 #[v,vs,.int .i64 k,.int .i64 n] w (nN (CW p s k n) w):=by
 obtain⟨Ab,cb,As,cs,rfl,hP',hBn,hSz,hlb,hls⟩:=sN hp;obtain⟨A0,c0,A1,c1,A2,c2,A3,c3,A4,c4,A5,c5,A6,c6,rfl,hV,hN,hO,hH,hM,hI,hU,hX,hl0,hl1,hl2,hl3,hl4,hl5,JA⟩:=oW hv;go_enter func57,ntmps57
 go_wp2_with fail;obtain⟨W0,hW0,hb0,lg,uZ,hsE,hK,hR⟩:=yD w p s Ab cb As cs A0 c0 A1 c1 A2 c2 A3 c3 A4 c4 A5 c5 A6 c6;rw[hW0];clear hW0;have hc3:=hcap.at
 clear hcap;obtain⟨⟨y0,y1⟩,x0,x1,x2,x3,x4,x5,x6,eP,eU⟩:=hK.O W0 (aj W0.heap.size W0);go_wp2_with fail;clear y0 y1 x0 x1 x2 x3 x4 x5 x6 eP eU;refine(Ag _ _ _ p s (hP'.O _ hb0) (hV.O _ hb0)).mono ?_
 rintro e W1 ⟨rfl,h1⟩;have hB1:=hb0.trans (h1.mono hb0.size);obtain⟨⟨y0,y1⟩,x0,x1,x2,x3,x4,x5,x6,eP,eU⟩:=hK.O W1 (h1);by_cases hc:aQ p s=0
 ·have hc':=ah hc;have hsn:=ah (kM.1 hc).1;rw[hc];clear hc;have h8:=hsn.O.vJ;have hw4:IntKind.i64.wrap ((s.aF.length:Int) - 1)=(s.aF.length:Int) - 1:=aN _ (by omega)
  cases g1:cZ k 0 ((s.aF.length:Int) - 1)
  ·have bK:=ah (Qo (k:=k) (n:=n) hc'.O (by have:=nU.1 g1;omega))
   go_wp2_with fail;refine(Fb g1 _).mono ?_
   rintro e w' ⟨rfl,rfl⟩;clear g1;have fH:=hR.O _ h1;go_wp2_with (refine dB (.tmp 8) (.tmp 27) dH dH rfl fH rfl rfl (λw9 dM je=>?_))
   have dN:=Below.gB hB1 je;go_wp2_with fail;exact jo results57 dM rfl rfl (jQ bK.O dN)
  have g1':=dV.1 g1;obtain⟨i,rfl⟩:∃i:Nat,k=i:=⟨k.toNat,by omega⟩
  have hk:i<s.aF.length:=by omega
  have hki:(i:Int)<(s.aF.length:Int):=by omega
  obtain⟨gd,sr,ds,mn,hxm⟩:∃gd sr ds mn,bH s.aF i=⟨gd,sr,ds,mn⟩:=⟨_,_,_,_,rfl⟩;have hmv:=hsn.O.bH hk;rw[hxm]at hmv
  simp only at hmv
  obtain⟨g,rfl⟩:∃g:Nat,gd=g:=⟨gd.toNat,by omega⟩
  obtain⟨a,rfl⟩:∃a:Nat,sr=a:=⟨sr.toNat,by omega⟩
  obtain⟨d,rfl⟩:∃d:Nat,ds=d:=⟨ds.toNat,by omega⟩
  have rG:g<p.aP.length:=by omega
  have hap:a<p.bQ.length:=by omega
  have hdp:d<p.bQ.length:=by omega
  have had:a≠d:=by omega
  have hao:a<s.on.length:=by rw[hsn.O.tY];exact hap
  have hdo:d<s.on.length:=by rw[hsn.O.tY];exact hdp
  have hga:g<(fO s.on a).length:=by rw[hsn.O.rowLen hap];exact rG
  have hgd:g<(fO s.on d).length:=by rw[hsn.O.rowLen hdp];exact rG
  have hai:(a:Int)<(s.on.length:Int):=by omega
  have hdi:(d:Int)<(s.on.length:Int):=by omega
  have jtP:(g:Int)<((fO s.on a).length:Int):=by omega
  have jtN:(g:Int)<((fO s.on d).length:Int):=by omega
  have hca:=hsn.O.cell hap rG;have hcd:=hsn.O.cell hdp rG;have Rx:=ah hxm;obtain⟨okm,lm,e0,e1,e2,e3⟩:=(hM.O W1 hB1).at_.move hk;rw[hxm]at e0 e1 e2 e3
  simp only at e0 e1 e2 e3
  have h1a:=h1.alloc h1.size (.cells #[.int .i64 g,.int .i64 a,.int .i64 d,.int .i64 mn] 48);have UA:=hB1.alloc hB1.size (.cells #[.int .i64 g,.int .i64 a,.int .i64 d,.int .i64 mn] 48);clear hxm;go_wp2_with fail;refine(Fb g1 _).mono ?_
  rintro e w' ⟨rfl,rfl⟩;clear g1 g1' hw4;go_wp2_with fail;cases g3:cZ n 0 mn
  ·have bK:=ah (NI (n:=n) hc'.O hk (by rw[Rx.O];have:=nU.1 g3;simp only;omega))
   refine(Fb g3 _).mono ?_
   rintro e w' ⟨rfl,rfl⟩;clear g3;have fH:=hR.O _ h1a;go_wp2_with (refine dB (.tmp 8) (.tmp 38) dH dH rfl fH rfl rfl (λw9 dM je=>?_))
   have dN:=Below.gB UA je;go_wp2_with fail;exact jo results57 dM rfl rfl (jQ bK.O dN)
  have g3':=dV.1 g3;refine(Fb g3 _).mono ?_
  rintro e w' ⟨rfl,rfl⟩;clear g3;have Oc:=ah (iV.new W1 48 #[.int .i64 g,.int .i64 a,.int .i64 d,.int .i64 mn]);obtain⟨Ar,cr,or0,TQ,Yx,vS⟩:=(hN.O W1 hB1).row hdo;obtain⟨or1,lr1,QW⟩:=vS.at_.int hgd;change W1.cell? _=some (.int .i64 (cell s.on d g))at QW
  have hw0:IntKind.i64.wrap (cell s.on d g+n)=cell s.on d g+n:=aN _ (by omega)
  by_cases hm:200<cell s.on d g+n
  ·have bK:=ah (VL (n:=n) hc'.O hk (by rw[Rx.O];exact⟨by omega,by simp only;omega⟩) (by rw[Rx.O];simp only[bZ];exact hm))
   go_wp2_with fail;go_quiet (fail)
   have Nq:=below_drewN h1a nq;have hBd:=below_drewN UA nq;clear y0 y1 x0 x1 x2 x3 x4 x5 x6 eP eU;clear e0 e1 e2 e3 okm lm or0 TQ Yx vS or1 lr1 QW Oc h1a UA;generalize (W1.alloc (.cells #[.int .i64 g,.int .i64 a,.int .i64 d,.int .i64 mn] 48)).drewN nq=W4 at Nq hBd ⊢
   have fH:=hR.O _ Nq;go_wp2_with (refine dB (.tmp 8) (.tmp 52) dH dH rfl fH rfl rfl (λw9 dM je=>?_))
   have dN:=Below.gB hBd je;go_wp2_with fail;exact jo results57 dM rfl rfl (jQ bK.O dN)
  have hmd:=fA hm;have bK:=ah (jbp (n:=n) hc'.O ⟨hk,by omega,by rw[Rx.O];simp only;omega,by rw[Rx.O];simp only[bZ];omega⟩)
  go_wp2_with fail;go_quiet (fail)
  have Nq:=below_drewN h1a nq;have hBd:=below_drewN UA nq;have Ho:=ah (Oc.O.below (below_drewN (aj _ _) nq) Oc.O.lt);clear y0 y1 x0 x1 x2 x3 x4 x5 x6 eP eU;clear e0 e1 e2 e3 okm lm or0 TQ Yx vS or1 lr1 QW Oc h1a UA hw0 hmd;generalize W1.heap.size=wl at Ho ⊢
  generalize (W1.alloc (.cells #[.int .i64 g,.int .i64 a,.int .i64 d,.int .i64 mn] 48)).drewN nq=W4 at Nq hBd Ho ⊢
  obtain⟨⟨y0,y1⟩,x0,x1,x2,x3,x4,x5,x6,eP,eU⟩:=hK.O W4 (Nq);go_wp2_with fail;clear y0 y1 x0 x1 x2 x3 x4 x5 x6 eP eU;refine(EI _ _ p s (hV.O _ hBd) hsn.O).mono ?_
  rintro e W5 ⟨_,rfl,⟨V5,rfl,AY⟩,h5⟩;have pq:=(AY).one;have xw:=vG (W5);go_wp2_with (refine dB (.tmp 12) (.tmp 54) dH V5 rfl xw rfl pq (λw6 lM Ib=>?_);refine aW ?_)
  unfold Hid;have sG:=qX Ib;have vT:=lM.lt;clear pq xw Ib;have h56:=h5.trans (sG.mono h5.size);have hx6:=ah (Bx.of lM (AY.below sG));have h06:=Nq.trans (h56.mono Nq.size);have vT:=ah (Ho.O.below h56 Ho.O.lt);have hlw:wl<W4.heap.size:=Ho.O.lt;have hle:w.heap.size<=W4.heap.size:=hBd.size;have hle0:W0.heap.size<=W4.heap.size:=Nq.size;have zZ:W4.heap.size<=W5.heap.size:=h5.size;clear lM AY sG h5 Ho Nq hBd h56;have jts:wl<w6.heap.size:=vT.O.lt;generalize W4.heap.size=aO at hx6 hle hle0 zZ hlw
  generalize W5.heap.size=bx at hx6 zZ ⊢
  have jed:aO<=bx:=zZ;have hcd1:cell (rZ s a g n).on d g=cell s.on d g:=by
   show cell (setCell s.on a g _) d g=_;rw[pR hao hga,ay (by omega)]
  have hw1:IntKind.i64.wrap (cell s.on a g - n)=cell s.on a g - n:=aN _ (by omega)
  have hw2:IntKind.i64.wrap (cell s.on d g+n)=cell s.on d g+n:=aN _ (by omega)
  obtain⟨Ic,con,PE,gr,cr,cur,Ot,Wy,Oa,r0,er,Wx,hbr,rc⟩:=hx6.O.own.Py hao hga;have c0:=hx6.O.cells.1;rw[Ot]at c0
  have er':=ah er;clear Ot er Oa hbr;have m0:=vT.O.cell (j:=0) rfl;have m1:=vT.O.cell (j:=1) rfl;go_wp2_with fail;go_still_tail 21,(by kernel_rfl)
  change wpList _ _ _ _ _ w6.drew;refine GU rfl (.tmp 75) (.tmp 74) rfl rfl (i:=a) (g:=g) (q:=cell s.on a g - n) hx6.O.drew hao hga er'.O rfl rfl (λw7 hx7 Ee=>?_)
  refine fC ?_
  have h07:=h06.drew.trans (Ee.below (B:=W0.heap.size) (λq hq=>by omega) h06.drew.size)
  have zx:=ah (show Bx w7 aO bx 31 [] V5 (rZ s a g n)from hx7)
  have Uy:=ah (Ee.blk (show iV w6.drew wl 48 _ from vT.O) (by omega))
  clear hx7 Ee c0 r0 rc m0 m1 hw1 hx6 h06 er' vT;have jd5:d<(rZ s a g n).on.length:=by show d<(setCell _ _ _ _).length;rw[qh];exact hdo
  have hgd1:g<(fO (rZ s a g n).on d).length:=by show g<(fO (setCell _ _ _ _) d).length;rw[uq];exact hgd
  obtain⟨Ic,con,PE,gr,cr,cur,Ot,Wy,Oa,r0,er,Wx,hbr,rc⟩:=zx.O.own.Py jd5 hgd1;rw[hcd1]at rc
  have c0:=zx.O.cells.1;rw[Ot]at c0
  have hl1:(rZ s a g n).on.length=s.on.length:=qh;have hl2:(fO (rZ s a g n).on d).length=(fO s.on d).length:=uq;rw[hl1]at c0
  rw[hl2]at r0
  have er':=ah er;clear Ot er Oa hbr hl1 hl2;have m0:=Uy.O.cell (j:=0) rfl;have m2:=Uy.O.cell (j:=2) rfl;go_wp2_with fail;go_still_tail 21,(by kernel_rfl)
  change wpList _ _ _ _ _ w7.drew;refine GU rfl (.tmp 96) (.tmp 95) rfl rfl (i:=d) (g:=g) (q:=cell s.on d g+n) zx.O.drew jd5 hgd1 er'.O rfl rfl (λw8 KQ AX=>?_)
  refine fC ?_
  have DY:=h07.drew.trans (AX.below (B:=W0.heap.size) (λq hq=>by omega) h07.drew.size)
  have vP:=ah (show Bx w8 aO bx 31 [] V5 (mv2 s a d g n)by unfold mv2;rw[hcd1];exact KQ)
  clear KQ AX c0 r0 rc m0 m2 hw2 zx h07 er' Uy jd5 hgd1;have Uz:=hb0.trans (DY.mono hb0.size);have jrU:=(hM.O w8 Uz).at_;obtain⟨⟨g3,o3,rfl⟩,_⟩:=jrU.move hk;have hMv:=ah (show ∀W,Below w8.heap.size w8 W->At W W.heap.size (some ⟨g3,o3,none⟩) (s.aF.flatMap nP)from λW hW=>(hM.O W (Uz.trans (hW.mono Uz.size))).at_)
  have hlt:(s.aF.take i).length=i:=by rw[bT];omega
  have hld:(s.aF.drop (i+1)).length=s.aF.length - (i+1):=fQ;have hba:Below w8.heap.size w8 (w8.alloc (.cells #[] 48)).drew:=((aj _ _).alloc (au _) _).drew;have hown0:Own nP 4 48 (w8.alloc (.cells #[] 48)).drew w8.heap.size (.slice (some ⟨w8.heap.size,0,none⟩) 0 0) []:=(Own.VQ w8 _ (au _):Own nP 4 48 (w8.alloc (.cells #[] 48)) w8.heap.size (.slice (some ⟨w8.heap.size,0,none⟩) 0 0) []);obtain⟨v1,w1,hr1,yj,hg1,hb1⟩:=GH _ w8.heap.size _ [] (s.aF.take i) hown0 g3 o3 c3 _ (At.head (ys:=(s.aF.drop i).flatMap nP) (by rw[<- gy,mF];exact hMv.O _ hba)) (by rw[hlt];simp only[dY];omega) hba.size
  rw[hlt]at hr1
  rw[iy]at yj
  have h81:=hba.trans hb1;obtain⟨A1',c1',rfl⟩:=yj.isSlice;rw[hlt]at hr1 yj
  have Ia:∃o7,At w1 w1.heap.size (some ⟨g3,o7,none⟩) ((s.aF.drop (i+1)).flatMap nP)/\(c3=i+1/\o7=o3\/¬c3=i+1/\o7=o3+(i+1)*4):=by
   by_cases hcq:c3=i+1
   ·refine⟨o3,?_,.inl ⟨hcq,rfl⟩⟩
    have:s.aF.drop (i+1)=[]:=wG (by omega)
    rw[this];exact At.nil
   ·refine⟨o3+(i+1)*4,?_,.inr ⟨hcq,rfl⟩⟩
    have h2:=hMv.O _ h81;rw[<- mF (i+1) s.aF,gy]at h2
    have h3:=h2.tail;rwa [kL nP 4 (λ_=>rfl),bT,jS (by omega)]at h3
  obtain⟨o7,hA7,Ia⟩:=Ia;obtain⟨v2,w2,hr2,yh,hg2,hb2⟩:=GH w1 w8.heap.size (.slice A1' i c1') (s.aF.take i) (s.aF.drop (i+1)) yj g3 o7 (c3 - (i+1)) _ hA7 (by rw[hlt,hld];omega) h81.size
  rw[hld]at hr2
  try rw[hlt]at hr2
  rw[<- nT]at yh
  obtain⟨TB,c2',rfl⟩:=yh.isSlice;have h82:=h81.trans hb2;have h01:=DY.trans (h81.mono DY.size);have h02:=DY.trans (h82.mono DY.size);have hx2:=vP.O.below h82;have hO2:=ah (show dK w2 aO {V5 with aF:=.slice TB (s.aF.eraseIdx i).length c2'} {mv2 s a d g n with aF:=s.aF.eraseIdx i}from hx2.own.VJ (yO w2 _) (yh.from_ (by have:=vP.O.lt;omega)))
  have Ji:=ah hx2.uK;have b3:w2.cell? ⟨bx,3,none⟩=some V5.aF:=hx2.cells.2.2.2.1;have f3:w2.frozen? ⟨bx,3,none⟩=false:=hx2.uK.blk.frozen 3;have hr1':=ah hr1;have hr2':=ah hr2;have q1:i<=c3:=by omega
  have q2:(i:Int)<=(c3:Int):=by omega
  have q3:(0:Int)<=(i:Int)+1:=by omega
  have q4:(i:Int)+1<=(s.aF.length:Int):=by omega
  have q5:((i:Int)+1).toNat=i+1:=by omega
  have q6:¬(c3=0):=by omega
  have q7:IntKind.i64.wrap ((i:Int)+1)=(i:Int)+1:=aN _ (by omega)
  have juw:=ah h82;obtain⟨⟨y0,y1⟩,x0,x1,x2,x3,x4,x5,x6,eP,eU⟩:=hK.O w8 (DY);obtain⟨⟨y01,y11⟩,x01,x11,x21,x31,x41,x51,x61,jmj,jmh⟩:=hK.O w1 (h01);obtain⟨⟨y02,y12⟩,x02,x12,x22,x32,x42,x52,x62,jmi,jmg⟩:=hK.O w2 (h02);clear hown0 yj yh hr1 hr2 hA7 hx2 hg1 hg2 hb1 hb2 hba h81 h82 h01 jrU hlt hld vP DY Uz;rcases Ia with⟨hcq,Ia⟩|⟨hcq,Ia⟩
  ·subst Ia;have jd8:(c3=i+1)=True:=eq_true hcq;clear hcq;go_wp2_with fail;go_region_law (first|refine qV _ rfl (.tmp 97) (.tmp 101) 29 29 rfl (.slice (some ⟨w8.heap.size,0,none⟩) 0 0) (.slice (some ⟨g3,o7,none⟩) i c3) (by simp[Act.eval,Act.put]) (by simp[Act.eval,Act.put]) hr1'.O ?_|refine qV _ rfl (.tmp 102) (.tmp 107) 29 29 rfl (.slice A1' i c1') (.slice (some ⟨g3,o7,none⟩) (s.aF.length - (i+1)) (c3 - (i+1))) (by simp[Act.eval,Act.put]) (by simp[Act.eval,Act.put]) hr2'.O ?_)
   all_goals
    clear y0 y1 x0 x1 x2 x3 x4 x5 x6 eP eU;clear y01 y11 x01 x11 x21 x31 x41 x51 x61 jmj jmh;clear y02 y12 x02 x12 x22 x32 x42 x52 x62 jmi jmg;clear b3 f3 q1 q2 q3 q4 q5 q6 q7;obtain⟨Dz,Cb⟩:=Bx.set' (V:=V5) (V':={V5 with aF:=.slice TB (s.aF.eraseIdx i).length c2'}) (s':={mv2 s a d g n with aF:=s.aF.eraseIdx i}) (rest:=[]) (by rw[iJ];exact Ji.O.blk) hO2.O Xp 3 (.slice TB (s.aF.eraseIdx i).length c2') rfl
    have sK:=ah (show Bx (w2.setCell ⟨bx,3,none⟩ (.slice TB (s.aF.eraseIdx i).length c2')) aO bx 31 [] {V5 with aF:=.slice TB (s.aF.eraseIdx i).length c2'} (AQ s i n)by rw[<- VK Rx.O];exact Dz)
    have h010:=qR h02 Cb h02.size (λk hk=>by injection hk with hk;omega)
    clear Dz Cb Ji hO2 hr1' hr2' jd8;generalize w2.setCell ⟨bx,3,none⟩ (.slice TB (s.aF.eraseIdx i).length c2')=w10 at sK h010 ⊢
    have jcd:=hb0.trans (h010.mono hb0.size);generalize ({V5 with aF:=.slice TB (s.aF.eraseIdx i).length c2'}:SV)=V9 at sK
    have fH:=hR.O _ h010;obtain⟨b0,b1,b2,b3,b4,b5,b6⟩:=jk.cells sK.O.uK;have lG:=dK.one sK.O.own;go_wp2_with (refine dB (.tmp 8) (.tmp 110) dH V9 rfl fH rfl lG (λw9 dM je=>?_))
    have wC:=dK.keptBy sK.O.own je fH (by decide) (by decide) (by decide) (by decide) (by decide) (by decide)
    have dN:=Below.gB jcd je;clear b0 b1 b2 b3 b4 b5 b6;go_wp2_with fail;exact jo results57 dM rfl rfl (EZ bK.O (wC.from_ hle) dN)
  ·subst Ia;have jd8:=hcq;clear hcq;go_wp2_with fail;go_region_law (first|refine qV _ rfl (.tmp 97) (.tmp 101) 29 29 rfl (.slice (some ⟨w8.heap.size,0,none⟩) 0 0) (.slice (some ⟨g3,o3,none⟩) i c3) (by simp[Act.eval,Act.put]) (by simp[Act.eval,Act.put]) hr1'.O ?_|refine qV _ rfl (.tmp 102) (.tmp 107) 29 29 rfl (.slice A1' i c1') (.slice (some ⟨g3,o3+(i+1)*4,none⟩) (s.aF.length - (i+1)) (c3 - (i+1))) (by simp[Act.eval,Act.put]) (by simp[Act.eval,Act.put]) hr2'.O ?_)
   all_goals
    clear y0 y1 x0 x1 x2 x3 x4 x5 x6 eP eU;clear y01 y11 x01 x11 x21 x31 x41 x51 x61 jmj jmh;clear y02 y12 x02 x12 x22 x32 x42 x52 x62 jmi jmg;clear b3 f3 q1 q2 q3 q4 q5 q6 q7;obtain⟨Dz,Cb⟩:=Bx.set' (V:=V5) (V':={V5 with aF:=.slice TB (s.aF.eraseIdx i).length c2'}) (s':={mv2 s a d g n with aF:=s.aF.eraseIdx i}) (rest:=[]) (by rw[iJ];exact Ji.O.blk) hO2.O Xp 3 (.slice TB (s.aF.eraseIdx i).length c2') rfl
    have sK:=ah (show Bx (w2.setCell ⟨bx,3,none⟩ (.slice TB (s.aF.eraseIdx i).length c2')) aO bx 31 [] {V5 with aF:=.slice TB (s.aF.eraseIdx i).length c2'} (AQ s i n)by rw[<- VK Rx.O];exact Dz)
    have h010:=qR h02 Cb h02.size (λk hk=>by injection hk with hk;omega)
    clear Dz Cb Ji hO2 hr1' hr2' jd8;generalize w2.setCell ⟨bx,3,none⟩ (.slice TB (s.aF.eraseIdx i).length c2')=w10 at sK h010 ⊢
    have jcd:=hb0.trans (h010.mono hb0.size);generalize ({V5 with aF:=.slice TB (s.aF.eraseIdx i).length c2'}:SV)=V9 at sK
    have fH:=hR.O _ h010;obtain⟨b0,b1,b2,b3,b4,b5,b6⟩:=jk.cells sK.O.uK;have lG:=dK.one sK.O.own;go_wp2_with (refine dB (.tmp 8) (.tmp 110) dH V9 rfl fH rfl lG (λw9 dM je=>?_))
    have wC:=dK.keptBy sK.O.own je fH (by decide) (by decide) (by decide) (by decide) (by decide) (by decide)
    have dN:=Below.gB jcd je;clear b0 b1 b2 b3 b4 b5 b6;go_wp2_with fail;exact jo results57 dM rfl rfl (EZ bK.O (wC.from_ hle) dN)
 ·have hne:(aQ p s !=0)=true:=by simpa using hc
  have bK:=ah (YJ (k:=k) (n:=n) hc);clear hc;have fH:=hR.O _ h1;go_wp2_with (refine dB (.tmp 8) (.tmp 18) dH dH rfl fH rfl rfl (λw9 dM je=>?_))
  have dN:=Below.gB hB1 je;go_wp2_with fail;exact jo results57 dM rfl rfl (jQ bK.O dN)
end Wh
namespace Wh
open Go Go.RowKit Go.Shelf Go.Proofs Tryz
attribute [local go_sem] aT jW jm kC
def Fq(l:List Move)(b g:Int):Nat->Int
 |0=>-1
 |k+1=>if(bH l k).src=b/\(bH l k).dh=g then k else Fq l b g k
def Qp(l:List Move)(b g:Int):Int:=Fq l b g l.length
def CZ(s:aJ)(b g:Nat):Nat->Int
 |0=>-1
 |k+1=>if(yt s b g).is (hold s.aA k)=true then k else CZ s b g k
def Qq(s:aJ)(b g:Nat):Int:=CZ s b g s.aA.length
theorem PS(l:List Move)(b g:Int):∀n,(Fq l b g n= -1/\∀j,j<n->¬((bH l j).src=b/\(bH l j).dh=g))\/
  ∃k:Nat,k<n/\Fq l b g n=k/\((bH l k).src=b/\(bH l k).dh=g)/\∀j,k<j->j<n->¬((bH l j).src=b/\(bH l j).dh=g)
 |0=>.inl ⟨rfl,λj hj=>by omega⟩
 |n+1=>by
  by_cases h:(bH l n).src=b/\(bH l n).dh=g
  ·exact .inr ⟨n,by omega,aB h,h,λj h1 h2=>by omega⟩
  ·have e:Fq l b g (n+1)=Fq l b g n:=ay h;rcases PS l b g n with⟨h1,h2⟩|⟨k,h1,h2,h3,h4⟩
   ·refine .inl ⟨by rw[e,h1],λj hj=>?_⟩
    by_cases hjn:j=n
    ·rw[hjn];exact h
    ·exact h2 j (by omega)
   ·refine .inr ⟨k,by omega,by rw[e,h2],h3,λj hkj hj=>?_⟩
    by_cases hjn:j=n
    ·rw[hjn];exact h
    ·exact h4 j hkj (by omega)
theorem PU(s:aJ)(b g:Nat):∀n,(CZ s b g n= -1/\∀j,j<n->(yt s b g).is (hold s.aA j)=false)\/
  ∃k:Nat,k<n/\CZ s b g n=k/\(yt s b g).is (hold s.aA k)=true/\∀j,k<j->j<n->(yt s b g).is (hold s.aA j)=false
 |0=>.inl ⟨rfl,λj hj=>by omega⟩
 |n+1=>by
  by_cases h:(yt s b g).is (hold s.aA n)=true
  ·exact .inr ⟨n,by omega,aB h,h,λj h1 h2=>by omega⟩
  ·have e:CZ s b g (n+1)=CZ s b g n:=ay h;have hf:(yt s b g).is (hold s.aA n)=false:=by simpa using h
   rcases PU s b g n with⟨h1,h2⟩|⟨k,h1,h2,h3,h4⟩
   ·refine .inl ⟨by rw[e,h1],λj hj=>?_⟩
    by_cases hjn:j=n
    ·rw[hjn];exact hf
    ·exact h2 j (by omega)
   ·refine .inr ⟨k,by omega,by rw[e,h2],h3,λj hkj hj=>?_⟩
    by_cases hjn:j=n
    ·rw[hjn];exact hf
    ·exact h4 j hkj (by omega)
theorem jfP(w:World)(vs:Value)(p:dA)(s:aJ)(b g:Int)(hv:lK w w.heap.size vs s)(hs:o9 p s):
  Calls prog 71 #[vs,.int .i64 b,.int .i64 g] w λe w'=>e=.returned (.int .i64 (Qp s.aF b g))/\Below w.heap.size w w':=by
 have h8:=hs.vJ;obtain⟨A0,c0,A1,c1,A2,c2,A3,c3,A4,c4,A5,c5,A6,c6,rfl,hV,hN,hO,hH,hM,hI,hU,hX,hl0,hl1,hl2,hl3,hl4,hl5,JA⟩:=oW hv;go_enter func71,ntmps71
 go_wp2_with fail;obtain⟨W0,hW0,hb0,lg,uZ,hsE,hK⟩:=Lp w s A0 c0 A1 c1 A2 c2 A3 c3 A4 c4 A5 c5 A6 c6;rw[hW0];clear hW0;obtain⟨⟨y0,y1⟩,x0,x1,x2,x3,x4,x5,x6,eP,eU⟩:=hK.O W0 (aj W0.heap.size W0);go_wp2_with fail;clear y0 y1 x0 x1 x2 x3 x4 x5 x6 eP eU;go_loopw[7] (λi wr=>∃k:Nat,k<=s.aF.length/\i=.int .i64 ((k:Int) - 1)/\Qp s.aF b g=Fq s.aF b g k/\Below W0.heap.size W0 wr) (λi _=>(RowKit.intOf i+1).toNat)
 case atStart=>exact⟨s.aF.length,au _,rfl,rfl,aj _ _⟩
 case round=>
  obtain⟨k,hk,rfl,hl,h0r⟩:=hrel;have hBr:=hb0.trans (h0r.mono hb0.size);have hl':=ah hl;clear hl;obtain⟨⟨y0,y1⟩,x0,x1,x2,x3,x4,x5,x6,eP,eU⟩:=hK.O wr (h0r);rcases k with _|m
  ·go_wp2_with fail;go_ret
   exact⟨by rw[hl'.O];rfl,hBr⟩
  ·have e1:(((m+1:Nat):Int) - 1)=(m:Int):=by omega
   rw[e1];have hm:m<s.aF.length:=by omega
   have hmi:(m:Int)<(s.aF.length:Int):=by omega
   obtain⟨okm,lm,f0,f1,f2,f3⟩:=(hM.O wr hBr).at_.move hm;by_cases h1:(bH s.aF m).src=b
   ·by_cases h2:(bH s.aF m).dh=g
    ·have t1:((bH s.aF m).src==b)=true:=by simpa using h1
     have t2:((bH s.aF m).dh==g)=true:=by simpa using h2
     have hx:=ah (show Qp s.aF b g=(m:Int)by rw[hl'.O];exact aB ⟨h1,h2⟩)
     clear h1 h2;go_wp2_with fail;go_ret
     exact⟨by rw[hx.O];rfl,hBr⟩
    ·have t1:((bH s.aF m).src==b)=true:=by simpa using h1
     have t2:((bH s.aF m).dh==g)=false:=by simpa using h2
     have hx:=ah (show Qp s.aF b g=Fq s.aF b g m by rw[hl'.O];exact ay (λh=>h2 h.2))
     clear h1 h2;go_wp2_with fail;clear y0 y1 x0 x1 x2 x3 x4 x5 x6 eP eU;go_roundw
     case rel=>exact⟨m,by omega,by go_num,hx.O,h0r⟩
     case measure=>simp[RowKit.intOf]
   ·have t1:((bH s.aF m).src==b)=false:=by simpa using h1
    have hx:=ah (show Qp s.aF b g=Fq s.aF b g m by rw[hl'.O];exact ay (λh=>h1 h.1))
    clear h1;go_wp2_with fail;clear y0 y1 x0 x1 x2 x3 x4 x5 x6 eP eU;go_roundw
    case rel=>exact⟨m,by omega,by go_num,hx.O,h0r⟩
    case measure=>simp[RowKit.intOf]
theorem jfQ(w:World)(vs:Value)(p:dA)(s:aJ)(b g:Nat)(hv:lK w w.heap.size vs s)(hs:o9 p s):
  Calls prog 72 #[vs,.int .i64 b,.int .i64 g] w λe w'=>e=.returned (.int .i64 (Qq s b g))/\Below w.heap.size w w':=by
 have hs':=ah hs;obtain⟨A0,c0,A1,c1,A2,c2,A3,c3,A4,c4,A5,c5,A6,c6,rfl,hV,hN,hO,hH,hM,hI,hU,hX,hl0,hl1,hl2,hl3,hl4,hl5,JA⟩:=oW hv;go_enter func72,ntmps72
 go_wp2_with fail;obtain⟨W0,hW0,hb0,lg,uZ,hsE,hK⟩:=Lp w s A0 c0 A1 c1 A2 c2 A3 c3 A4 c4 A5 c5 A6 c6;rw[hW0];clear hW0;obtain⟨⟨y0,y1⟩,x0,x1,x2,x3,x4,x5,x6,eP,eU⟩:=hK.O W0 (aj W0.heap.size W0);go_wp2_with fail;clear y0 y1 x0 x1 x2 x3 x4 x5 x6 eP eU;clear hs;go_loopw[7,8] (λi _ wr=>∃k:Nat,k<=s.aA.length/\i=.int .i64 ((k:Int) - 1)/\Qq s b g=CZ s b g k/\Below W0.heap.size W0 wr) (λi _ _=>(RowKit.intOf i+1).toNat)
 case atStart=>exact⟨s.aA.length,au _,rfl,rfl,aj _ _⟩
 case round=>
  obtain⟨k,hk,rfl,hl,h0r⟩:=hrel;have hBr:=hb0.trans (h0r.mono hb0.size);have hl':=ah hl;clear hl;obtain⟨⟨y0,y1⟩,x0,x1,x2,x3,x4,x5,x6,eP,eU⟩:=hK.O wr (h0r);rcases k with _|m
  ·go_wp2_with fail;go_ret
   exact⟨by rw[hl'.O];rfl,hBr⟩
  ·have e1:(((m+1:Nat):Int) - 1)=(m:Int):=by omega
   rw[e1];have hm:m<s.aA.length:=by omega
   have hmi:(m:Int)<(s.aA.length:Int):=by omega
   obtain⟨okm,lm,f0,f1,f2,f3⟩:=(hH.O wr hBr).at_.hold hm;have hat:=hs'.O.yR hm;obtain⟨o,eo⟩:∃o:Nat,(hold s.aA m).aC=o:=⟨(hold s.aA m).aC.toNat,by omega⟩
   obtain⟨l,el⟩:∃l:Nat,(hold s.aA m).aG=l:=⟨(hold s.aA m).aG.toNat,by omega⟩
   have his:=ES (s:=s) (b:=(b:Int)) (g:=(g:Int)) (x:=hold s.aA m);rw[eo,el]at his hat
   simp only[bZ]at his hat
   have ho:o<s.ak.length:=by omega
   have hlo:l<(s.aC o).aH.length:=by omega
   have hoi:(o:Int)<(s.ak.length:Int):=by omega
   have hloi:(l:Int)<((aU s.ak o).aH.length:Int):=by show(l:Int)<((s.aC o).aH.length:Int);omega
   have Z9:=ah his;rw[eo]at f0
   rw[el]at f1
   clear his hat eo el;generalize (hold s.aA m).bin=bn at f2 Z9
   generalize (hold s.aA m).n=n at f3
   have hpt:CZ s b g (m+1)=if(yt s b g).is (hold s.aA m)=true then(m:Int)else CZ s b g m:=rfl
   have jni:=ah hpt;clear hpt;have h2a:=h0r.alloc h0r.size (.cells #[.int .i64 o,.int .i64 l,.int .i64 bn,.int .i64 n] 46);have hbl:=ah (iV.new wr 46 #[.int .i64 o,.int .i64 l,.int .i64 bn,.int .i64 n]);go_wp2_with fail;clear y0 y1 x0 x1 x2 x3 x4 x5 x6 eP eU;clear f0 f1 f2 f3 okm lm;generalize wr.alloc (.cells #[.int .i64 o,.int .i64 l,.int .i64 bn,.int .i64 n] 46)=W4 at h2a hbl ⊢
   generalize wr.heap.size=hx at hbl ⊢
   have hB4:=hb0.trans (h2a.mono hb0.size);obtain⟨Al,cl,ol,ll,d0,d1,hsl⟩:=(hO.O W4 hB4).aC ho;obtain⟨ok2,l2,e0,e1',e2,e3⟩:=hsl.at_.aG hlo;change W4.cell? _=some (.int .i64 (s.aG o l).dh)at e0
   have x0':=hbl.O.cell (j:=0) rfl;have x1':=hbl.O.cell (j:=1) rfl;have x2':=hbl.O.cell (j:=2) rfl;have x3':=hbl.O.cell (j:=3) rfl;have tx:=hbl.O.lt;obtain⟨⟨y0,y1⟩,x0,x1,x2,x3,x4,x5,x6,eP,eU⟩:=hK.O W4 (h2a);by_cases h1:bn=(b:Int)
   ·by_cases h2:(s.aG o l).dh=(g:Int)
    ·have t1:(bn==(b:Int))=true:=by simpa using h1
     have t2:((s.aG o l).dh==(g:Int))=true:=by simpa using h2
     have hr:=ah (show Qq s b g=(m:Int)by rw[hl'.O,jni.O,aB (Z9.O.2 ⟨h1,h2⟩)])
     clear h1 h2;go_wp2_with fail;go_quiet (fail)
     have h4q:=below_drewN hB4 nq;go_wp2_with fail;go_ret
     exact⟨by rw[hr.O];rfl,h4q⟩
    ·have t1:(bn==(b:Int))=true:=by simpa using h1
     have t2:((s.aG o l).dh==(g:Int))=false:=by simpa using h2
     have hr:=ah (show Qq s b g=CZ s b g m by rw[hl'.O,jni.O,ay (λh=>h2 (Z9.O.1 h).2)])
     clear h1 h2;go_wp2_with fail;go_quiet (fail)
     have h4q:=below_drewN h2a nq;go_wp2_with fail;clear y0 y1 x0 x1 x2 x3 x4 x5 x6 eP eU;clear d0 d1 e0 e1' e2 e3 x0' x1' x2' x3' ol ll ok2 l2 hsl;go_roundw
     case rel=>exact⟨m,by omega,by go_num,hr.O,h4q⟩
     case measure=>simp[RowKit.intOf]
   ·have t1:(bn==(b:Int))=false:=by simpa using h1
    have hr:=ah (show Qq s b g=CZ s b g m by rw[hl'.O,jni.O,ay (λh=>h1 (Z9.O.1 h).1)])
    clear h1;go_wp2_with fail;go_quiet (fail)
    have h4q:=below_drewN h2a nq;go_wp2_with fail;clear y0 y1 x0 x1 x2 x3 x4 x5 x6 eP eU;clear d0 d1 e0 e1' e2 e3 x0' x1' x2' x3' ol ll ok2 l2 hsl;go_roundw
    case rel=>exact⟨m,by omega,by go_num,hr.O,h4q⟩
    case measure=>simp[RowKit.intOf]
end Wh
