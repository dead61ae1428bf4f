/- Texts of the claim, joined. -/
import Derived.Deep.LoopGhost
import Derived.Test.YtniaecolikhmeaaGreatDoorQ24
set_option maxHeartbeats 20000000
set_option maxRecDepth 100000
set_option linter.all false
namespace Wh
open Go Go.RowKit Go.Shelf Go.Proofs Tryz
section
attribute [local go_sem] aV jF iY jI
def cStr(l:List Nat):List Value:=[.string (eY l)]
theorem jaJ(l:List Nat):∀u∈cStr l,u.oneCell'=true:=by simp[cStr,Value.oneCell']
theorem jaV:Elem prog 9 (.string ⟨#[]⟩) 1 16:=Ls (by kernel_rfl)
theorem GL(a b:List Nat):eY a++eY b=eY (a++b):=by
 unfold eY;apply DU;simp
theorem PL(t:List Nat)(i j:Nat):(eY t).extract i j=eY ((t.take j).drop i):=by
 unfold eY;rw[ByteArray.extract_mk];have e:(List.take j (List.map UInt8.ofNat t)).drop i=List.take (j - i) (List.drop i (List.map UInt8.ofNat t)):=by rw[List.drop_take]
 rw[List.map_drop,List.map_take,e]
theorem jmA{t:List Nat}(hb:∀n∈t,n<256){i:Nat}(h:i<(eY t).size):(((eY t)[i]'h).toNat:Int)=(t.getD i 0:Nat):=by
 have hi:i<t.length:=by rwa [pK]at h
 have e:(eY t)[i]'h=UInt8.ofNat t[i]:=by simp[eY,ByteArray.getElem_eq_getElem_data]
 have:=hb _ (dh hi);rw[e];simp[bQ hi]
 omega
theorem jkI{a b:List Nat}(ha:∀x∈a,x<256)(hb:∀x∈b,x<256):eY a=eY b↔a=b:=by
 refine⟨λh=>bytes_inj ha hb ?_,λh=>by rw[h]⟩
 have:=nO (λs:ByteArray=>s.data.toList) h
 simpa[eY,bytes]using this
theorem VH(n:Nat):∀(w:World),n<=9223372036854775807->Calls prog 46 #[n] w λe w'=>e=.returned (.string (eY (digits n)))/\Below w w w':=by
 induction n using Nat.strongRecOn with
 |ind n ih=>
  intro w hn;have hO:=Own.lit (enc:=jnE) (size:=1) (aT:=w.heap.size) w 5 #[.int .u8 (48+n%10:Nat)] [48+n%10] (ay _) (by simp) (λ_=>rfl) rfl
  have hcv:=jfv hO (by simp;omega) (by simp)
  have hb0:Below w w (w.alloc (.cells #[.int .u8 (48+n%10:Nat)] 5)):=(aj _ _).alloc (ay _) _;have hst:=zX n;rw[show((48+n%10:Nat):Int)=48+(n:Int)%10 by omega]at hcv hb0
  simp only[bP,dQ,fM]at hcv
  clear hO;go_enter func46,ntmps46
  by_cases h10:n<10
  ·have jvr:(n:Int)<10:=by omega
   go_wp2_with fail;rw[hst,aB h10,AB h10];exact bV (v:=.string (eY [48+n])) (by simp[results,results46,go_sem]) rfl ⟨rfl,hb0⟩
  ·have jvr:¬(n:Int)<10:=by omega
   go_wp2_with fail;rw[show(n:Int) / 10=((n / 10:Nat):Int)by omega]
   refine(ih (n / 10) (by omega) _ (by omega)).mono ?_
   rintro e W1 ⟨rfl,hb1⟩;have hsz:¬ 9223372036854775807<(eY (digits (n / 10))).size+(eY [48+n%10]).size:=by
    have:=En 18 (n / 10) (by omega)
    rw[pK,pK];simp only[bP,dQ];omega
   go_wp2_with fail;rw[hst,au h10,GL];exact bV (v:=.string (eY (digits (n / 10)++[48+n%10]))) (by simp[results,results46,go_sem]) rfl ⟨rfl,fD hb0 hb1⟩
def Dx(t:List Nat)(k fr:Nat)(ps:List (List Nat)):Prop:=
 (k<=t.length/\fr<=k/\splitB 32 (t.take k)=ps++[(t.take k).drop fr])\/(k=t.length+1/\ps=splitB 32 t)
theorem Dx.no{t:List Nat}{k fr:Nat}{ps:List (List Nat)}(h:Dx t k fr ps)(hk:k<t.length)(hx:t[k]≠32):Dx t (k+1) fr ps:=by
 rcases h with⟨h1,h2,h3⟩|⟨h1,_⟩
 ·refine .inl ⟨hk,by omega,?_⟩
  rw[bM hk,Iw,au hx,h3,rJ (by rw[bC];omega)]
  simp
 ·omega
theorem Dx.yes{t:List Nat}{k fr:Nat}{ps:List (List Nat)}(h:Dx t k fr ps)(hk:k<t.length)(hx:t[k]=32):Dx t (k+1) (k+1) (ps++[(t.take k).drop fr]):=by
 rcases h with⟨h1,h2,h3⟩|⟨h1,_⟩
 ·refine .inl ⟨hk,by omega,?_⟩
  have e:(t.take (k+1)).drop (k+1)=[]:=rQ (by rw[bC];exact Nat.min_le_left _ _)
  rw[e,bM hk,Iw,aB hx,h3]
 ·omega
theorem Dx.end_{t:List Nat}{fr:Nat}{ps:List (List Nat)}(h:Dx t t.length fr ps):Dx t (t.length+1) (t.length+1) (ps++[(t.take t.length).drop fr]):=by
 rcases h with⟨h1,h2,h3⟩|⟨h1,_⟩
 ·rw[dR]at h3 ⊢
  exact .inr ⟨rfl,h3.symm⟩
 ·omega
theorem JR(c:Nat):∀t:List Nat,(splitB c t).length<=t.length+1
 |[]=>by simp[splitB]
 |x::r=>by
  have ih:=JR c r;unfold splitB;split
  ·simpa using ih
  ·have:=LZ c r;cases h:splitB c r with
   |nil=>exact absurd h this
   |cons p ps=>rw[h]at ih;simp at ih ⊢;omega
theorem Dx.len{t:List Nat}{k fr:Nat}{ps:List (List Nat)}(h:Dx t k fr ps):ps.length<=t.length+1:=by
 rcases h with⟨h1,h2,h3⟩|⟨h1,h2⟩
 ·have:=JR 32 (t.take k);rw[h3,aX,bC]at this
  simp only[bP,dQ]at this
  omega
 ·rw[h2];exact JR 32 t
theorem Dx.fr{t:List Nat}{k fr:Nat}{ps:List (List Nat)}(h:Dx t k fr ps)(hk:k<=t.length):fr<=k:=by
 rcases h with⟨h1,h2,h3⟩|⟨h1,h2⟩
 ·exact h2
 ·omega
theorem Qk{t:List Nat}(hb:∀n∈t,n<256){k:Nat}(hk:k<t.length)(h:k<(eY t).size):(((eY t)[k]'h).toNat:Int)=(t[k]:Nat):=by
 have:=jmA hb h;rw[this];simp[bQ hk]
theorem jnS(w:World)(t:List Nat)(hb:∀n∈t,n<256)(hl:t.length<=4096):Calls prog 44 #[.string (eY t)] w λe w'=>∃v,e=.returned v/\Own cStr 1 9 w' w v (splitB 32 t)/\Below w w w':=by
 have hsz:=pK t;go_enter func44,ntmps44
 go_wp2_with fail;go_loopw[3,4,5] (λv f i wr=>∃k fr ps,k<=t.length+1/\i=.int .i64 (k:Nat)/\f=.int .i64 (fr:Nat)/\Dx t k fr ps/\Own cStr 1 9 wr w.heap.size v ps/\Below w.heap.size w wr) (λ_ _ i _=>t.length+1 - (RowKit.intOf i).toNat)
 case atStart=>exact⟨0,0,[],aN _,rfl,rfl,.inl ⟨aN _,ay _,rfl⟩,Own.nil,aj _ _⟩
 case round=>
  obtain⟨k,fr,ps,hk,rfl,rfl,hs,ho,h0r⟩:=hrel;have hpl:=hs.len;obtain⟨A,c,rfl⟩:=ho.isSlice;have ho':=ah ho;have hs':=ah hs;clear ho hs;by_cases h1:k<t.length
  ·have hix:=Qk hb h1 (by omega)
   have hfr:=hs'.O.fr (by omega)
   by_cases hx:t[k]=32
   ·go_wp2_with (at_builtin;refine bD ?_)
    unfold Hid;rw[PL];refine jV _ rfl (.tmp 22) (.tmp 27) 77 9 rfl w.heap.size _ 1 16 underlying77 jaV rfl (by decide) (by decide) (.slice A ps.length c) ps ((t.take k).drop fr) rfl (ho'.O.alloc _) wr 1 rfl rfl (cell_one_new _ _ _) (jaJ _) (by omega) (by simp;have:=h0r.size;omega) ?_
    intro v3 w3 ho3 hg3 hv3 hb3;have QG:=ah ho3;have hB3:Below w w w3:=(h0r.alloc h0r.size _).trans hb3;clear ho3 hg3 hv3 hb3;go_wp2_with fail;go_roundw
    case rel=>exact⟨k+1,k+1,_,by omega,by go_num,by go_num,hs'.O.yes h1 hx,QG.O,hB3⟩
    case measure=>simp[dY];omega
   ·have hxi:(((k:Nat):Int)==(t.length:Int)||((t[k]:Nat):Int)==32)=false:=by simp;omega
    go_wp2_with fail;go_roundw
    case rel=>exact⟨k+1,fr,ps,by omega,by go_num,rfl,hs'.O.no h1 hx,ho'.O,h0r⟩
    case measure=>simp[dY];omega
  ·by_cases h2:k=t.length
   ·subst h2;have hfr:=hs'.O.fr (ay _);go_wp2_with (at_builtin;refine bD ?_)
    unfold Hid;rw[PL];refine jV _ rfl (.tmp 22) (.tmp 27) 77 9 rfl w.heap.size _ 1 16 underlying77 jaV rfl (by decide) (by decide) (.slice A ps.length c) ps ((t.take t.length).drop fr) rfl (ho'.O.alloc _) wr 1 rfl rfl (cell_one_new _ _ _) (jaJ _) (by omega) (by simp;have:=h0r.size;omega) ?_
    intro v3 w3 ho3 hg3 hv3 hb3;have QG:=ah ho3;have hB3:Below w w w3:=(h0r.alloc h0r.size _).trans hb3;clear ho3 hg3 hv3 hb3;go_wp2_with fail;go_roundw
    case rel=>exact⟨t.length+1,t.length+1,_,by omega,by go_num,by go_num,hs'.O.end_,QG.O,hB3⟩
    all_goals(simp[dY]<;>omega)
   ·obtain rfl:k=t.length+1:=by omega
    obtain rfl:ps=splitB 32 t:=by
     rcases hs'.O with⟨h3,_,_⟩|⟨_,h3⟩
     ·omega
     ·exact h3
    go_wp2_with fail;exact bV (v:=.slice A (splitB 32 t).length c) (by simp[results,results44,go_sem]) rfl ⟨_,rfl,ho'.O,h0r⟩
theorem jgt{a b:List Nat}(ha:∀x∈a,x<256)(hb:∀x∈b,x<256)(h:a≠b):((eY a).toList==(eY b).toList)=false:=by
 rw[kL,tN,tN];exact λhe=>h (bytes_inj ha hb he)
theorem PO{n lo hi:Int}{b:Bool}(h:dM n lo hi=b)(w:World):Calls prog 43 #[n,lo,hi] w λe w'=>e=.returned (.bool b)/\w=w':=by
 have:=oz n lo hi w;rwa [h]at this
theorem WW{s:List Nat}(h:¬(1<=s.length/\s.length<=6/\s.all isDigit=true/\digits (valOf s)=s)):J3 s= -1:=by
 unfold J3;rw[au h]
theorem jgQ{s:List Nat}(h:1<=s.length/\s.length<=6/\s.all isDigit=true/\digits (valOf s)=s):J3 s=valOf s:=by
 unfold J3;rw[aB h]
theorem jtM(w:World)(t:List Nat)(hb:∀n∈t,n<256)(hl:t.length<=4096):Calls prog 71 #[.string (eY t)] w λe w'=>e=.returned (.int .i64 (J3 t))/\Below w w w':=by
 have hsz:=pK t;by_cases h16:1<=t.length/\t.length<=6
 ·have hwi:=PO (n:=t.length) (lo:=1) (hi:=6) (b:=true) (dZ.2 (by omega)) w
  go_enter func71,ntmps71
  go_wp2_with (go_at_call 43;refine hwi.mono ?_;rintro e w' ⟨rfl,rfl⟩)
  go_loopw[3,4] (λv i wr=>∃k:Nat,k<=t.length/\i=.int .i64 (k:Nat)/\v=.int .i64 (valOf (t.take k):Nat)/\(t.take k).all isDigit=true/\valOf (t.take k)<10 ^ k/\wr=w) (λ_ i _=>t.length - (RowKit.intOf i).toNat)
  case atStart=>exact⟨0,aN _,rfl,rfl,rfl,by simp[valOf],rfl⟩
  case round=>
   obtain⟨k,hk,rfl,rfl,hd,hv,rfl⟩:=hrel;have hd':=ah hd;have hpw:10 ^ k<=1000000:=aU (Nat.pow_le_pow_right (by decide) (show k<=6 by omega)) (by decide)
   by_cases h1:k<t.length
   ·have hix:=Qk hb h1 (by omega)
    have hbk:=hb _ (dh h1);have hsn:=ah (show valOf (t.take (k+1))=10*valOf (t.take k)+(t[k] - 48)by rw[bM h1,Wi])
    have hds:=ah (show(t.take (k+1)).all isDigit=(decide (48<=t[k])&&decide (t[k]<=57))by rw[bM h1,List.all_append,hd];simp[isDigit])
    clear hd;by_cases hx:48<=t[k]/\t[k]<=57
    ·go_wp2_with fail;refine⟨⟨k+1,by omega,by go_num,by rw[hsn.O];congr 1;omega,by rw[hds.O];simp[hx],?_,trivial⟩,by simp[dY];omega⟩
     rw[hsn.O,EM];omega
    ·go_wp2_with fail;all_goals exact bV (v:=.int .i64 (-1)) (by simp[results,results71,go_sem]) rfl ⟨by
      rw[WW];rintro⟨_,_,h3,_⟩;rw[bJ]at h3
      have:=h3 _ (dh h1);simp[isDigit]at this
      omega,aj _ _⟩
   ·obtain rfl:k=t.length:=by omega
    rw[dR]at hd' hv ⊢
    clear hd;go_wp2_with fail;refine(VH _ _ (by omega)).mono ?_
    rintro e W1 ⟨rfl,hb1⟩;by_cases hq:digits (valOf t)=t
    ·go_wp2_with fail;exact bV (v:=.int .i64 (valOf t:Nat)) (by simp[results,results71,go_sem]) rfl ⟨by rw[jgQ ⟨h16.1,h16.2,hd'.O,hq⟩],hb1⟩
    ·have hqb:=jgt (λx hx=>by have:=Em _ x hx;omega) hb hq
     go_wp2_with fail;exact bV (v:=.int .i64 (-1)) (by simp[results,results71,go_sem]) rfl ⟨by
      rw[WW];rintro⟨_,_,_,h4⟩;exact hq h4,hb1⟩
 ·have hwi:=PO (n:=t.length) (lo:=1) (hi:=6) (b:=false) (mY.2 (by omega)) w
  go_enter func71,ntmps71
  go_wp2_with (go_at_call 43;refine hwi.mono ?_;rintro e w' ⟨rfl,rfl⟩)
  exact bV (v:=.int .i64 (-1)) (by simp[results,results71,go_sem]) rfl ⟨by
   rw[WW];rintro⟨h1,h2,_⟩;exact h16 ⟨h1,h2⟩,aj _ _⟩
theorem At.str{w:World}{B:Nat}{A:Option Addr}{l:List (List Nat)}(h:At w B A (l.flatMap cStr)){i:Nat}(hi:i<l.length):okA A/\iH A<B/\w.cell? ⟨iH A,l9 A+i,none⟩=some (.string (eY l[i])):=by
 have hk:∀x,(cStr x).length=0+1:=λ_=>rfl
 obtain⟨h1,h2⟩:=h.jex hk hi;have:=h.flat hk (bQ hi) (j:=0) (by decide) rfl
 exact⟨h1,h2,by simpa using this⟩
theorem Q5:∀(l:List (List Nat)) (x:List Nat),zi (l++[x])=(zi l).bind λxs=>if J3 x<0 then none else some (xs++[J3 x])
 |[],x=>by
  simp only[fJ,zi,tq];split<;>simp
 |y::r,x=>by
  rw[gG,zi,zi,Q5 r x];split
  ·rfl
  ·cases zi r with
   |none=>rfl
   |some xs=>
    simp only[tq,jr];split<;>simp
theorem Q7:∀ {l:List (List Nat)} {k:Nat},zi (l.take k)=none->zi l=none
 |[],k,h=>by rw[List.take_nil]at h;exact h
 |y::r,0,h=>by simp[zi]at h
 |y::r,k+1,h=>by
  rw[aG,zi]at h
  rw[zi];split at h
  ·rename_i hy
   rw[aB hy]
  ·rename_i hy
   rw[au hy];rw[Option.map_eq_none_iff]at h ⊢
   exact Q7 h
theorem P7:∀ {l:List (List Nat)} {xs:List Int},zi l=some xs->xs.length=l.length
 |[],xs,h=>by
  rw[zi]at h
  injection h with h
  subst h;rfl
 |y::r,xs,h=>by
  rw[zi]at h
  split at h
  ·cases h
  ·cases hr:zi r with
   |none=>rw[hr]at h;cases h
   |some ys=>
    rw[hr,jr]at h
    injection h with h
    rw[<- h,bP,bP,P7 hr]
theorem jeh(w:World)(v:Value)(l:List (List Nat))(hv:Sl cStr w w v l)(hb:∀x∈l,(∀n∈x,n<256)/\x.length<=4096)(hl:l.length<=5000):Calls prog 47 #[v] w λe w'=>
  ∃v',e=.returned (.tuple #[v',.bool (zi l).isSome])/\Own iW 1 3 w' w v' ((zi l).getD [])/\Below w w w':=by
 obtain⟨A,c,rfl⟩:=hv.isSlice;have hA:=ah hv.at_;clear hv;go_enter func47,ntmps47
 go_wp2_with fail;go_loopw[4,5] (λv i wr=>∃k xs,k<=l.length/\i=.int .i64 (k:Nat)/\zi (l.take k)=some xs/\Own iW 1 3 wr w.heap.size v xs/\Below w.heap.size w wr) (λ_ i _=>l.length - (RowKit.intOf i).toNat)
 case atStart=>exact⟨0,[],aN _,rfl,rfl,Own.nil,aj _ _⟩
 case round=>
  obtain⟨k,xs,hk,rfl,hn,ho,h0r⟩:=hrel;obtain⟨A2,c2,rfl⟩:=ho.isSlice;have hxl:xs.length=k:=by
   have:=P7 hn;rw[bC]at this
   omega
  rw[hxl]at ho ⊢
  have ho':=ah ho;have hn':=ah hn;clear ho hn;by_cases h1:k<l.length
  ·obtain⟨ok1,lA,c0⟩:=(hA.O.up h0r (ay _)).str h1;have hbx:=hb _ (dh h1);have hsn:=ah (show zi (l.take (k+1))=_ by rw[bM h1,Q5,hn'.O,tq])
   go_wp2_with fail;clear c0;refine(jtM _ _ hbx.1 hbx.2).mono ?_
   rintro e W1 ⟨rfl,hb1⟩;have h01:=fD h0r hb1;have ho1:=ah (ho'.O.below hb1);obtain⟨m,hm⟩:∃m,J3 l[k]=m:=⟨_,rfl⟩;rw[hm];rw[hm]at hsn
   by_cases hneg:m<0
   ·rw[aB hneg]at hsn
    have kQ:=Q7 hsn.O;go_wp2_with fail;exact bV (v:=.tuple #[nS,.bool false]) (by simp[results,results47,go_sem]) rfl ⟨_,by rw[kQ];rfl,by rw[kQ];exact Own.nil,h01⟩
   ·rw[au hneg]at hsn
    go_wp2_with (at_builtin;refine bD ?_)
    unfold Hid;refine jV _ rfl (.tmp 20) (.tmp 22) 23 3 rfl w.heap.size _ 1 8 underlying23 zS rfl (by decide) (by decide) (.slice A2 k c2) xs m rfl (ho1.O.alloc _) W1 1 rfl rfl (cell_one_new _ _ _) (Dv _) (by omega) (by simp;have:=h01.size;omega) ?_
    intro v3 w3 ho3 hg3 hv3 hb3;have QG:=ah ho3;have hB3:Below w w w3:=(h01.alloc h01.size _).trans hb3;clear ho3 hg3 hv3 hb3;go_wp2_with fail;go_roundw
    case rel=>exact⟨k+1,_,by omega,by go_num,hsn.O,QG.O,hB3⟩
    all_goals(simp[dY]<;>omega)
  ·obtain rfl:k=l.length:=by omega
   rw[dR]at hn'
   go_wp2_with fail;exact bV (v:=.tuple #[.slice A2 l.length c2,.bool true]) (by simp[results,results47,go_sem]) rfl ⟨_,by rw[hn'.O];rfl,by rw[hn'.O];exact ho'.O,h0r⟩
theorem Gj(a b:Int)(r:List Int):lJ (a::b::r)=digits a.toNat++32::lJ (b::r):=by
 rw[lJ];simp
theorem SK:∀(l:List Int) (n:Int),lJ (l++[n])=(if l=[]then []else lJ l++[32])++digits n.toNat
 |[],n=>by simp[lJ]
 |[a],n=>by simp[lJ]
 |a::b::r,n=>by
  have ih:=SK (b::r) n;rw[au (by simp)]at ih ⊢
  have e:lJ (a::b::r++[n])=digits a.toNat++32::lJ (b::r++[n]):=Gj a b (r++[n]);rw[e,ih,Gj];simp
theorem Lc:∀(l:List Int),(∀n∈l,0<=n/\n<=9223372036854775807)->(lJ l).length<=21*l.length
 |[],_=>by simp[lJ]
 |[a],h=>by
  have h2:=h a (by simp)
  have h3:=En 18 a.toNat (by omega)
  simp[lJ]
  omega
 |a::b::r,h=>by
  have h1:=Lc (b::r) (λx hx=>h x (aY _ hx))
  have h2:=h a (by simp)
  have h3:=En 18 a.toNat (by omega)
  rw[Gj];simp only[aX,bP]at h1 ⊢
  omega
theorem Xj:∀(l:List Int),∀x∈lJ l,x<256
 |[],x,hx=>by simp[lJ]at hx
 |[a],x,hx=>by
  have:=Em a.toNat x (by simpa[lJ]using hx)
  omega
 |a::b::r,x,hx=>by
  rw[Gj,jD,fF]at hx
  rcases hx with hx|hx|hx
  ·have:=Em a.toNat x hx;omega
  ·omega
  ·exact Xj (b::r) x hx
theorem jlg(w:World)(v:Value)(l:List Int)(hv:Sl iW w w v l)(hb:∀n∈l,0<=n/\n<=9223372036854775807)(hl:l.length<=100000):Calls prog 51 #[v] w λe w'=>e=.returned (.string (eY (lJ l)))/\Below w w w':=by
 obtain⟨A,c,rfl⟩:=hv.isSlice;have hA:=ah hv.at_;clear hv;go_enter func51,ntmps51
 go_wp2_with fail;go_loopw[3,4] (λv i wr=>∃k,k<=l.length/\i=.int .i64 (k:Nat)/\v=.string (eY (lJ (l.take k)))/\Below w.heap.size w wr) (λ_ i _=>l.length - (RowKit.intOf i).toNat)
 case atStart=>exact⟨0,aN _,rfl,rfl,aj _ _⟩
 case round=>
  obtain⟨k,hk,rfl,rfl,h0r⟩:=hrel;by_cases h1:k<l.length
  ·obtain⟨ok1,lA,c0⟩:=(hA.O.up h0r (ay _)).int h1;have hn:=hb _ (dh h1);have hi:aZ l k=l[k]:=by simp[aZ,h1]
   rw[hi]at c0
   obtain⟨n,hnn⟩:∃n:Nat,l[k]=(n:Int):=⟨l[k].toNat,by omega⟩
   have hsn:=ah (show lJ (l.take (k+1))=(if l.take k=[]then []else lJ (l.take k)++[32])++digits n by rw[bM h1,SK,hnn];rfl)
   rw[hnn]at c0 hn
   have lZ:=Lc (l.take k) (λx hx=>hb x (oq hx))
   rw[bC]at lZ
   have um:=pK (lJ (l.take k));have hsz2:=pK (digits n);have hdl:=En 18 n (by omega)
   have h32:eY (lJ (l.take k))++⟨#[32]⟩=eY (lJ (l.take k)++[32]):=GL _ [32];have hsz3:=pK (lJ (l.take k)++[32]);rw[aX]at hsz3
   simp only[bP,dQ]at hsz3
   obtain⟨T,hT⟩:∃T,lJ (l.take k)=T:=⟨_,rfl⟩;rw[hT]at hsn lZ um h32 hsz3 ⊢
   have hT':=ah hT;clear hT;by_cases h0:k=0
   ·have h0i:¬(0:Int)<(k:Int):=by omega
    have h0':=ah h0;clear h0;go_wp2_with fail;refine(VH n _ (by omega)).mono ?_
    rintro e W1 ⟨rfl,hb1⟩;have h01:=fD h0r hb1;go_wp2_with fail;go_roundw
    case rel=>
     have hk0:l.take k=[]:=by rw[h0'.O];rfl
     have hT0:T=[]:=by rw[<- hT'.O,hk0];rfl
     have:=hsn.O;rw[aB hk0,fJ]at this
     exact⟨k+1,by omega,by go_num,by rw[this,hT0,GL,fJ],h01⟩
    all_goals(simp[dY]<;>omega)
   ·have h0i:(0:Int)<(k:Int):=by omega
    go_wp2_with fail;refine(VH n _ (by omega)).mono ?_
    rintro e W1 ⟨rfl,hb1⟩;have h01:=fD h0r hb1;go_wp2_with fail;go_roundw
    case rel=>
     have hk0:l.take k≠[]:=by intro h;have:=nO List.length h;rw[bC,dQ]at this;omega
     have:=hsn.O;rw[au hk0]at this
     exact⟨k+1,by omega,by go_num,by rw[this,GL],h01⟩
    all_goals(simp[dY]<;>omega)
  ·obtain rfl:k=l.length:=by omega
   rw[dR];go_wp2_with fail;exact bV (v:=.string (eY (lJ l))) (by simp[results,results51,go_sem]) rfl ⟨rfl,h0r⟩
end
section
attribute [local go_sem] aV jF iY jI
theorem TW:∀(l:List Int),(pairs l).length=l.length / 2
 |[]=>rfl
 |[_]=>by simp[pairs]
 |a::b::r=>by
  rw[pairs,bP,TW r];simp only[bP];omega
theorem TY:∀(l:List Int) (k:Nat) (h:k<(pairs l).length),(pairs l)[k]=⟨aZ l (2*k),aZ l (2*k+1),0,0⟩
 |[],k,h=>by simp[pairs]at h
 |[_],k,h=>by simp[pairs]at h
 |a::b::r,0,h=>by simp[pairs,aZ]
 |a::b::r,k+1,h=>by
  have:=TY r k (by rw[pairs,bP]at h;omega)
  simp only[pairs,pF];rw[this];have e1:2*(k+1)=2*k+1+1:=by omega
  have e2:2*(k+1)+1=2*k+1+1+1:=by omega
  rw[e1];simp[aZ]
theorem xO{op W:List Nat}(hop:∀x∈op,x<256)(hW:∀x∈W,x<256):(eY op).toList=W.map UInt8.ofNat↔op=W:=by
 rw[tN];exact⟨λh=>bytes_inj hop hW h,λh=>by rw[h]⟩
theorem Ep{w W:World}{a:Go.Act}{k x y z u:Int}{bb:Bool}{o:Option Qw}(hW:W=w.alloc (.cells #[k,x,y,z,u,nS] 81)\/W=(w.alloc (.cells #[k,x,y,z,u,nS] 81)).drew)
  (ht:a.tmps.getD 4 undef=.pointer (some w)/\a.tmps.getD 5 undef=.bool bb) (hd:a.defers=[]) (ho:o.isSome=bb/\o.getD ⟨0,0,0,0,0,[]⟩=⟨k,x,y,z,u,[]⟩):
  bodyPost prog f48 (λe w'=>∃vd,e=.returned (.tuple #[vd,.bool o.isSome])/\Yo w' w' vd (o.getD ⟨0,0,0,0,0,[]⟩)/\Below w w w') .ret a W:=by
 have hx:iJ W w 81 [k,x,y,z,u,nS]:=hW.elim (λh=>by rw[h];exact iJ.new _ _ _) (λh=>by rw[h];exact(iJ.new _ _ _).drew)
 have hB:Below w w W:=hW.elim (λh=>by rw[h];exact(aj _ _).alloc (ay _) _) (λh=>by rw[h];exact((aj _ _).alloc (ay _) _).drew)
 obtain⟨h4,h5⟩:=ht;refine bV (v:=.tuple #[.agg #[k,x,y,z,u,nS],.bool bb]) ?_ hd ⟨_,by rw[ho.1],⟨_,by rw[ho.2],by rw[ho.2];exact Sl.nil⟩,hB⟩
 have a0:=hx.cell (j:=0) rfl;have a1:=hx.cell (j:=1) rfl;have a2:=hx.cell (j:=2) rfl;have a3:=hx.cell (j:=3) rfl;have a4:=hx.cell (j:=4) rfl;have a5:=hx.cell (j:=5) rfl;rw[lg]at h4 h5
 simp[results,results48,go_sem,h4,h5,a0,a1,a2,a3,a4,a5]
theorem jnV(w:World)(op:List Nat)(v:Value)(l:List Int)(hop:∀x∈op,x<256)(hv:Sl iW w w v l)(hl:l.length<=5000):Calls prog 48 #[.string (eY op),v] w λe w'=>
  ∃vd,e=.returned (.tuple #[vd,.bool (xq op l).isSome])/\Yo w' w' vd ((xq op l).getD ⟨0,0,0,0,0,[]⟩)/\Below w w w':=by
 obtain⟨A,c,rfl⟩:=hv.isSlice;have hA:=ah hv.at_;clear hv;have w1:(eY op).toList=[114,101,99,101,105,118,101]↔op=lS:=xO (W:=lS) hop (by decide)
 have w2:(eY op).toList=[99,97,110,99,101,108]↔op=ou:=xO (W:=ou) hop (by decide)
 have w3:(eY op).toList=[112,105,99,107]↔op=xY:=xO (W:=xY) hop (by decide)
 have w4:(eY op).toList=[109,111,118,101,100]↔op=sG:=xO (W:=sG) hop (by decide)
 have w5:(eY op).toList=[99,111,117,110,116]↔op=sW:=xO (W:=sW) hop (by decide)
 have w6:(eY op).toList=[114,101,108,101,97,115,101]↔op=nJ:=xO (W:=nJ) hop (by decide)
 have w7:(eY op).toList=[102,105,108,108]↔op=zL:=xO (W:=zL) hop (by decide)
 have w8:(eY op).toList=[101,110,116,101,114]↔op=zx:=xO (W:=zx) hop (by decide)
 have hx0:iJ (w.alloc (.cells NV 81)) w 81 [zI,zI,zI,zI,zI,nS]:=iJ.new _ _ _;have hB0:Below w w (w.alloc (.cells NV 81)):=(aj _ _).alloc (ay _) _;have hx0':=ah hx0;clear hx0;have hA0:=ah (hA.O.up hB0 (ay _));by_cases e1:op=lS
 ·have d1:=w1.2 e1;have hop':=ah e1;clear e1;by_cases hn:l.length=3
  ·have hni:(l.length:Int)=3:=by omega
   have hact:=ah (show xq op l=some ⟨1,aZ l 0,aZ l 1,0,aZ l 2,[]⟩by rw[hop'.O];unfold xq;simp[hn,aZ,lS])
   obtain⟨ok0,lA0,c0⟩:=hA.O.int (i:=0) (by omega)
   obtain⟨ok1,lA1,c1⟩:=hA.O.int (i:=1) (by omega)
   obtain⟨ok2,lA2,c2⟩:=hA.O.int (i:=2) (by omega)
   rw[fZ]at c0
   clear w1 w2 w3 w4 w5 w6 w7 w8;go_enter func48,ntmps48
   go_wp2_with fail;go_region
   go_wp2_with fail;exact Ep (.inr rfl) ⟨rfl,rfl⟩ rfl (by rw[hact.O];exact⟨rfl,rfl⟩)
  ·have hni:¬(l.length:Int)=3:=by omega
   have hact:=ah (show xq op l=none by rw[hop'.O];unfold xq;simp[hn,lS,ou,xY,sG,sW,nJ,zL,zx])
   clear w1 w2 w3 w4 w5 w6 w7 w8;go_enter func48,ntmps48
   go_wp2_with fail;exact Ep (.inl rfl) ⟨rfl,rfl⟩ rfl (by rw[hact.O];exact⟨rfl,rfl⟩)
 have f1:¬(eY op).toList=[114,101,99,101,105,118,101]:=λh=>e1 (w1.1 h)
 by_cases e2:op=ou
 ·have d2:=w2.2 e2;have hop':=ah e2;clear e2;by_cases hn:l.length=1
  ·have hni:(l.length:Int)=1:=by omega
   have hact:=ah (show xq op l=some ⟨4,aZ l 0,0,0,0,[]⟩by rw[hop'.O];unfold xq;simp[hn,aZ,lS,ou])
   obtain⟨ok0,lA0,c0⟩:=hA.O.int (i:=0) (by omega)
   rw[fZ]at c0
   clear w1 w2 w3 w4 w5 w6 w7 w8;go_enter func48,ntmps48
   go_wp2_with fail;go_wp2_with fail;exact Ep (.inl rfl) ⟨rfl,rfl⟩ rfl (by rw[hact.O];exact⟨rfl,rfl⟩)
  ·have hni:¬(l.length:Int)=1:=by omega
   have hact:=ah (show xq op l=none by rw[hop'.O];unfold xq;simp[hn,lS,ou,xY,sG,sW,nJ,zL,zx])
   clear w1 w2 w3 w4 w5 w6 w7 w8;go_enter func48,ntmps48
   go_wp2_with fail;exact Ep (.inl rfl) ⟨rfl,rfl⟩ rfl (by rw[hact.O];exact⟨rfl,rfl⟩)
 have f2:¬(eY op).toList=[99,97,110,99,101,108]:=λh=>e2 (w2.1 h)
 by_cases e3:op=xY
 ·have d3:=w3.2 e3;have hop':=ah e3;clear e3;by_cases hn:l.length=4
  ·have hni:(l.length:Int)=4:=by omega
   have hact:=ah (show xq op l=some ⟨5,aZ l 0,aZ l 1,aZ l 2,aZ l 3,[]⟩by rw[hop'.O];unfold xq;simp[hn,aZ,lS,ou,xY])
   obtain⟨ok0,lA0,c0⟩:=hA.O.int (i:=0) (by omega)
   obtain⟨ok1,lA1,c1⟩:=hA.O.int (i:=1) (by omega)
   obtain⟨ok2,lA2,c2⟩:=hA.O.int (i:=2) (by omega)
   obtain⟨ok3,lA3,c3⟩:=hA.O.int (i:=3) (by omega)
   rw[fZ]at c0
   clear w1 w2 w3 w4 w5 w6 w7 w8;go_enter func48,ntmps48
   go_wp2_with fail;go_region
   go_wp2_with fail;exact Ep (.inr rfl) ⟨rfl,rfl⟩ rfl (by rw[hact.O];exact⟨rfl,rfl⟩)
  ·have hni:¬(l.length:Int)=4:=by omega
   have hact:=ah (show xq op l=none by rw[hop'.O];unfold xq;simp[hn,lS,ou,xY,sG,sW,nJ,zL,zx])
   clear w1 w2 w3 w4 w5 w6 w7 w8;go_enter func48,ntmps48
   go_wp2_with fail;exact Ep (.inl rfl) ⟨rfl,rfl⟩ rfl (by rw[hact.O];exact⟨rfl,rfl⟩)
 have f3:¬(eY op).toList=[112,105,99,107]:=λh=>e3 (w3.1 h)
 by_cases e4:op=sG
 ·have d4:=w4.2 e4;have hop':=ah e4;clear e4;by_cases hn:l.length=2
  ·have hni:(l.length:Int)=2:=by omega
   have hact:=ah (show xq op l=some ⟨7,aZ l 0,0,0,aZ l 1,[]⟩by rw[hop'.O];unfold xq;simp[hn,aZ,lS,ou,xY,sG])
   obtain⟨ok0,lA0,c0⟩:=hA.O.int (i:=0) (by omega)
   obtain⟨ok1,lA1,c1⟩:=hA.O.int (i:=1) (by omega)
   rw[fZ]at c0
   clear w1 w2 w3 w4 w5 w6 w7 w8;go_enter func48,ntmps48
   go_wp2_with fail;go_region
   go_wp2_with fail;exact Ep (.inr rfl) ⟨rfl,rfl⟩ rfl (by rw[hact.O];exact⟨rfl,rfl⟩)
  ·have hni:¬(l.length:Int)=2:=by omega
   have hact:=ah (show xq op l=none by rw[hop'.O];unfold xq;simp[hn,lS,ou,xY,sG,sW,nJ,zL,zx])
   clear w1 w2 w3 w4 w5 w6 w7 w8;go_enter func48,ntmps48
   go_wp2_with fail;exact Ep (.inl rfl) ⟨rfl,rfl⟩ rfl (by rw[hact.O];exact⟨rfl,rfl⟩)
 have f4:¬(eY op).toList=[109,111,118,101,100]:=λh=>e4 (w4.1 h)
 by_cases e5:op=sW
 ·have d5:=w5.2 e5;have hop':=ah e5;clear e5;by_cases hn:l.length=3
  ·have hni:(l.length:Int)=3:=by omega
   have hact:=ah (show xq op l=some ⟨8,aZ l 0,aZ l 1,0,aZ l 2,[]⟩by rw[hop'.O];unfold xq;simp[hn,aZ,lS,ou,xY,sG,sW])
   obtain⟨ok0,lA0,c0⟩:=hA.O.int (i:=0) (by omega)
   obtain⟨ok1,lA1,c1⟩:=hA.O.int (i:=1) (by omega)
   obtain⟨ok2,lA2,c2⟩:=hA.O.int (i:=2) (by omega)
   rw[fZ]at c0
   clear w1 w2 w3 w4 w5 w6 w7 w8;go_enter func48,ntmps48
   go_wp2_with fail;go_region
   go_wp2_with fail;exact Ep (.inr rfl) ⟨rfl,rfl⟩ rfl (by rw[hact.O];exact⟨rfl,rfl⟩)
  ·have hni:¬(l.length:Int)=3:=by omega
   have hact:=ah (show xq op l=none by rw[hop'.O];unfold xq;simp[hn,lS,ou,xY,sG,sW,nJ,zL,zx])
   clear w1 w2 w3 w4 w5 w6 w7 w8;go_enter func48,ntmps48
   go_wp2_with fail;exact Ep (.inl rfl) ⟨rfl,rfl⟩ rfl (by rw[hact.O];exact⟨rfl,rfl⟩)
 have f5:¬(eY op).toList=[99,111,117,110,116]:=λh=>e5 (w5.1 h)
 by_cases e6:op=nJ
 ·have d6:=w6.2 e6;have hop':=ah e6;clear e6;by_cases hn:l.length=0
  ·have hni:(l.length:Int)=0:=by omega
   have hact:=ah (show xq op l=some ⟨3,0,0,0,0,[]⟩by rw[hop'.O];unfold xq;simp[hn,lS,ou,xY,sG,sW,nJ])
   clear w1 w2 w3 w4 w5 w6 w7 w8;go_enter func48,ntmps48
   go_wp2_with fail;go_wp2_with fail;exact Ep (.inl rfl) ⟨rfl,rfl⟩ rfl (by rw[hact.O];exact⟨rfl,rfl⟩)
  ·have hni:¬(l.length:Int)=0:=by omega
   have hact:=ah (show xq op l=none by rw[hop'.O];unfold xq;simp[hn,lS,ou,xY,sG,sW,nJ,zL,zx])
   clear w1 w2 w3 w4 w5 w6 w7 w8;go_enter func48,ntmps48
   go_wp2_with fail;exact Ep (.inl rfl) ⟨rfl,rfl⟩ rfl (by rw[hact.O];exact⟨rfl,rfl⟩)
 have f6:¬(eY op).toList=[114,101,108,101,97,115,101]:=λh=>e6 (w6.1 h)
 by_cases e7:op=zL
 ·have d7:=w7.2 e7;have hop':=ah e7;clear e7;by_cases hn:l.length=0
  ·have hni:(l.length:Int)=0:=by omega
   have hact:=ah (show xq op l=some ⟨6,0,0,0,0,[]⟩by rw[hop'.O];unfold xq;simp[hn,lS,ou,xY,sG,sW,nJ,zL])
   clear w1 w2 w3 w4 w5 w6 w7 w8;go_enter func48,ntmps48
   go_wp2_with fail;go_wp2_with fail;exact Ep (.inl rfl) ⟨rfl,rfl⟩ rfl (by rw[hact.O];exact⟨rfl,rfl⟩)
  ·have hni:¬(l.length:Int)=0:=by omega
   have hact:=ah (show xq op l=none by rw[hop'.O];unfold xq;simp[hn,lS,ou,xY,sG,sW,nJ,zL,zx])
   clear w1 w2 w3 w4 w5 w6 w7 w8;go_enter func48,ntmps48
   go_wp2_with fail;exact Ep (.inl rfl) ⟨rfl,rfl⟩ rfl (by rw[hact.O];exact⟨rfl,rfl⟩)
 have f7:¬(eY op).toList=[102,105,108,108]:=λh=>e7 (w7.1 h)
 by_cases e8:op=zx
 ·have d8:=w8.2 e8;have hop':=ah e8;clear e8 w1 w2 w3 w4 w5 w6 w7 w8 e1 e2 e3 e4 e5 e6 e7;by_cases hev:l.length%2=0
  ·have hei:(l.length:Int)%2=0:=by omega
   by_cases hn:2<=l.length/\l.length<=6
   ·have hact:=ah (show xq op l=some ⟨2,0,0,0,0,pairs l⟩by rw[hop'.O];unfold xq;simp[hev,hn,lS,ou,xY,sG,sW,nJ,zL,zx])
    have hwi:∀W:World,Calls prog 43 #[l.length,.int .i64 2,.int .i64 6] W λe w'=>e=.returned (.bool true)/\W=w':=λW=>PO (dZ.2 (by omega)) W
    go_enter func48,ntmps48
    go_wp2_with (go_at_call 43;refine(hwi _).mono ?_;rintro e w' ⟨rfl,rfl⟩)
    have hz1:iJ ((w.alloc (.cells NV 81)).alloc (.cells #[.int .i64 2,zI,zI,zI,zI,nS] 81)) w 81 [zI,zI,zI,zI,zI,nS]:=hx0'.O.alloc _;have ha1:iJ ((w.alloc (.cells NV 81)).alloc (.cells #[.int .i64 2,zI,zI,zI,zI,nS] 81)) (w.heap.size+1) 81 [.int .i64 2,zI,zI,zI,zI,nS]:=by
     have h:=iJ.new (w.alloc (.cells NV 81)) 81 #[.int .i64 2,zI,zI,zI,zI,nS];rw[dK]at h
     exact h
    have hB1:Below w w ((w.alloc (.cells NV 81)).alloc (.cells #[.int .i64 2,zI,zI,zI,zI,nS] 81)):=hB0.alloc hB0.size _;generalize (w.alloc (.cells NV 81)).alloc (.cells #[.int .i64 2,zI,zI,zI,zI,nS] 81)=W1 at hz1 ha1 hB1 ⊢
    have hz1':=ah hz1;have jss:=ah ha1;have jsS:=ah hB1;have hpl:=TW l;have hpl':=ah hpl;clear hz1 ha1 hB1 hB0 hx0' hA0 hpl;go_loopw[8] (λi wr=>∃(k:Nat) (vl:Value),2*k<=l.length/\i=.int .i64 ((2*k:Nat):Int)/\iJ wr w.heap.size 81 [zI,zI,zI,zI,zI,nS]/\iJ wr (w.heap.size+1) 81 [.int .i64 2,zI,zI,zI,zI,vl]/\Own mX 4 106 wr w.heap.size vl ((pairs l).take k)/\Below w.heap.size w wr) (λi _=>l.length - (RowKit.intOf i).toNat)
    case atStart=>exact⟨0,_,aN _,rfl,hz1'.O,jss.O,Own.nil,jsS.O⟩
    case round=>
     clear hz1' jss jsS;obtain⟨k,vl,hk,rfl,hxz,hxa,hO,hBr⟩:=hrel;obtain⟨A1,c1,hv1⟩:=hO.isSlice;have hlk:((pairs l).take k).length=k:=by
      rw[bC];have:=hpl'.O;omega
     rw[hlk]at hv1
     subst hv1;have Ue:=ah hxz;have J7:=ah hxa;have hO':=ah hO;clear hxz hxa hO;obtain⟨m,hm⟩:∃m,2*k=m:=⟨_,rfl⟩;rw[hm];by_cases hlt:2*k<l.length
     ·have hmi:(m:Int)<(l.length:Int):=by omega
      have hmj:(m:Int)+1<(l.length:Int):=by omega
      have g1:(0:Int)<=(m:Int)+1:=by omega
      have v1:((m:Int)+1).toNat=m+1:=by omega
      have u1:IntKind.i64.wrap ((m:Int)+1)=(m:Int)+1:=aP _ (by omega)
      have u2:IntKind.i64.wrap ((m:Int)+2)=(m:Int)+2:=aP _ (by omega)
      have hsn:=ah (show(pairs l).take (k+1)=(pairs l).take k++[(⟨aZ l m,aZ l (m+1),0,0⟩:Line)]by
       have hkl:k<(pairs l).length:=by rw[hpl'.O];omega
       rw[bM hkl,TY l k hkl,hm])
      obtain⟨ok0,lA,c0⟩:=(hA.O.up hBr (ay _)).int (i:=m) (by omega)
      obtain⟨_,_,c1'⟩:=(hA.O.up hBr (ay _)).int (i:=m+1) (by omega)
      have lA':iH A<wr.heap.size:=aJ lA hBr.size;have x5:=J7.O.cell (j:=5) rfl;have lx:=J7.O.lt;have hbs:=hBr.size;go_wp2_with fail;refine IX 13 [rV 124 (.pointer (some ⟨w.heap.size+1,5,none⟩)),rV 125 (.slice A1 k c1),rV 126 (.slice A l.length c),rV 127 (m),rV 128 (.pointer (some ⟨iH A,l9 A+m,none⟩)),rV 129 ((aZ l m)),rV 130 (.slice A l.length c),rV 131 (m),rV 132 (.int .i64 ((m:Int)+1)),rV 133 (.pointer (some ⟨iH A,l9 A+(m+1),none⟩)),rV 134 (.int .i64 (aZ l (m+1))),rV 135 (.agg #[(aZ l m),.int .i64 (aZ l (m+1)),zI,zI]),λgq w'=>(λv w'=>∃bb,v=.slice (some ⟨bb,0,none⟩) 1 1/\iJ w' bb 106 [(aZ l m),.int .i64 (aZ l (m+1)),zI,zI]) (gq 136) w'] ?_ (λf W2 hb2 hR=>?_)
      simp only[aG,aS];refine bT.v (λgq w' hb ho hd=>?_) ?_
      ·have e7:=ho 7 rfl;go_simp
      refine bT.v (λgq w' hb ho hd=>?_) ?_
      ·have e124:_=_:=hd.d 0;have x5':=(hb.cell (p:=⟨w.heap.size+1,5,none⟩) lx).trans x5;go_simp
      refine bT.v (λgq w' hb ho hd=>?_) ?_
      ·have e1:=ho 1 rfl;go_simp
      refine bT.v (λgq w' hb ho hd=>?_) ?_
      ·have e8:=ho 8 rfl;go_simp
      refine bT.v (λgq w' hb ho hd=>?_) ?_
      ·have e126:_=_:=hd.d 2;have e127:_=_:=hd.d 3;go_simp
      refine bT.v (λgq w' hb ho hd=>?_) ?_
      ·have e128:_=_:=hd.d 4;have c0':=(hb.cell (p:=⟨iH A,l9 A+m,none⟩) lA').trans c0;go_simp
      refine bT.v (λgq w' hb ho hd=>?_) ?_
      ·have e1:=ho 1 rfl;go_simp
      refine bT.v (λgq w' hb ho hd=>?_) ?_
      ·have e8:=ho 8 rfl;go_simp
      refine bT.v (λgq w' hb ho hd=>?_) ?_
      ·have e131:_=_:=hd.d 7;go_simp
      refine bT.v (λgq w' hb ho hd=>?_) ?_
      ·have e130:_=_:=hd.d 6;have jvD:_=_:=hd.d 8;go_simp
      refine bT.v (λgq w' hb ho hd=>?_) ?_
      ·have jvC:_=_:=hd.d 9;have jvL:=(hb.cell (p:=⟨iH A,l9 A+(m+1),none⟩) lA').trans c1';go_simp
      refine bT.v (λgq w' hb ho hd=>?_) ?_
      ·have e129:_=_:=hd.d 5;have jvB:_=_:=hd.d 10;go_simp
      refine bT.cons (sN.one (d:=136) (p:=(λv w'=>∃bb,v=.slice (some ⟨bb,0,none⟩) 1 1/\iJ w' bb 106 [(aZ l m),.int .i64 (aZ l (m+1)),zI,zI])) rfl rfl (λv w1 w2 h hb=>let ⟨bb,h1,h2⟩:=h;⟨bb,h1,h2.below hb h2.lt⟩) (λgq w' hb ho hd=>?_)) ?_
      ·have jvA:_=_:=hd.d 11;unfold iq;go_simp
       exact⟨iJ.new _ _ _,(aj _ _).alloc (ay _) _⟩
      exact bT.nil;obtain⟨jqM,jqL,jqK,jqJ,jqI,jqH,jqG,jqF,jiE,jiD,jiC,jiB,jaB,_⟩:=hR;replace jaB:∃bb,(f 136)=.slice (some ⟨bb,0,none⟩) 1 1/\iJ W2 bb 106 [(aZ l m),.int .i64 (aZ l (m+1)),zI,zI]:=jaB;simp only[kP,qJ,aG,aS,bU,dH,bY,cO,dA,dL,aQ,bG,bH,jqM,jqL,jqK,jqJ,jqI,jqH,jqG,jqF,jiE,jiD,jiC,jiB];clear jqM jqL jqK jqJ jqI jqH jqG jqF jiE jiD jiC jiB;obtain⟨bb,jaB,hbb⟩:=jaB;simp only[jaB];clear jaB;have hO2:=ah (hO'.O.below hb2);have hz2:=ah (Ue.O.below hb2 Ue.O.lt);have ha2:=ah (J7.O.below hb2 lx);have hB2:=fD hBr hb2;have hs2:=hb2.size;have jj2:=ah hbb;clear hbb hO' Ue J7 hb2 x5 lx c0 c1';refine jV _ rfl (.tmp 125) (.tmp 136) 79 106 rfl w.heap.size _ 4 32 underlying79 OJ rfl (by decide) (by decide) (.slice A1 k c1) ((pairs l).take k) (⟨aZ l m,aZ l (m+1),0,0⟩:Line) rfl hO2.O bb 1 rfl rfl (λj u hj=>by rw[gy,fM];exact jj2.O.cell hj) (jaL _) (by omega) (by omega) ?_
      intro v9 w9 C9 jg Oe AA;obtain⟨A9,c9,jaY⟩:=C9.isSlice;have hn9:((pairs l).take k++[(⟨aZ l m,aZ l (m+1),0,0⟩:Line)]).length=k+1:=by rw[aX,hlk];rfl
      rw[hn9]at jaY
      subst jaY;have key:∀ {g:Nat} {t:TypeId} {cur:List Value},iJ W2 g t cur->106≠t->iJ w9 g t cur:=λhk hne=>hk.grown jg (by
       rcases Own.qy hO2.O hk hne with hn|hn
       ·rw[hn];intro he;cases he
       ·exact λhe=>hn he.symm)
      have hz9:=key hz2.O (by decide)
      have ha9:=key ha2.O (by decide)
      obtain⟨jj5,IK⟩:=Az ha9 5 (.slice A9 (k+1) c9);have ji0:=ah (hz9.grown IK (by intro he;injection he with he;omega))
      have jda:=ah (show iJ (w9.setCell ⟨w.heap.size+1,5,none⟩ (.slice A9 (k+1) c9)) (w.heap.size+1) 81 [.int .i64 2,zI,zI,zI,zI,.slice A9 (k+1) c9]from jj5)
      have Xy:=ah (show Own mX 4 106 (w9.setCell ⟨w.heap.size+1,5,none⟩ (.slice A9 (k+1) c9)) w (.slice A9 (k+1) c9) ((pairs l).take (k+1))by
       rw[hsn.O];exact C9.kept IK (Own.qy C9 ha9 (by decide)))
      have Bj:=hB2.trans AA;have Oi:=Bj.grown IK Bj.size (λj hj=>by injection hj with hj;omega)
      have b5c:=ha9.cell (j:=5) rfl;have f5c:=ha9.frozen 5;have l5c:=ha9.lt;clear C9 jg AA hn9 hz9 ha9 jj5 IK hO2 hz2 ha2 hB2 jj2 Oe hsn hlk key Bj;go_wp2_with fail;clear b5c f5c l5c;generalize w9.setCell ⟨w.heap.size+1,5,none⟩ (.slice A9 (k+1) c9)=w10 at ji0 jda Xy Oi ⊢
      try go_wp2_with fail
      go_roundw
      case rel=>exact⟨k+1,_,by omega,by rw[show((2*(k+1):Nat):Int)=(m:Int)+2 by omega],ji0.O,jda.O,Xy.O,Oi⟩
      case measure=>simp[dY];omega
     ·have hmi:¬(m:Int)<(l.length:Int):=by omega
      have kQ:(pairs l).take k=pairs l:=kJ (by rw[hpl'.O];omega)
      have x0:=J7.O.cell (j:=0) rfl;have x1:=J7.O.cell (j:=1) rfl;have x2:=J7.O.cell (j:=2) rfl;have x3:=J7.O.cell (j:=3) rfl;have x4:=J7.O.cell (j:=4) rfl;have x5:=J7.O.cell (j:=5) rfl;have lx:=J7.O.lt;go_wp2_with (refine jP rfl 81 (.tmp 4) (.tmp 139) rfl w #[.int .i64 2,zI,zI,zI,zI,.slice A1 k c1] rfl rfl 81 _ Ue.O (by kernel_rfl) rfl (by simp[Value.oneCell']) ?_;refine bD ?_)
      unfold Hid;have Gq:iJ (wr.setRow w #[.int .i64 2,zI,zI,zI,zI,.slice A1 k c1]) w 81 [.int .i64 2,zI,zI,zI,zI,.slice A1 k c1]:=iJ.row Ue.O [.int .i64 2,zI,zI,zI,zI,.slice A1 k c1];have Bj:=tV hBr (ay w.heap.size) #[.int .i64 2,zI,zI,zI,zI,.slice A1 k c1];have wO:=hO'.O.kept (wL wr w #[.int .i64 2,zI,zI,zI,zI,.slice A1 k c1]) (Own.qy hO'.O Ue.O (by decide))
      generalize wr.setRow w #[.int .i64 2,zI,zI,zI,zI,.slice A1 k c1]=w9 at Gq Bj wO ⊢
      clear x0 x1 x2 x3 x4 x5;have a0:=Gq.cell (j:=0) rfl;have a1:=Gq.cell (j:=1) rfl;have a2:=Gq.cell (j:=2) rfl;have a3:=Gq.cell (j:=3) rfl;have a4:=Gq.cell (j:=4) rfl;have a5:=Gq.cell (j:=5) rfl;have YT:=ah wO;clear wO;go_wp2_with fail;exact bV (v:=.tuple #[.agg #[.int .i64 2,zI,zI,zI,zI,.slice A1 k c1],.bool true]) (by simp[results,results48,go_sem,a0,a1,a2,a3,a4,a5]) rfl ⟨.agg #[.int .i64 2,zI,zI,zI,zI,.slice A1 k c1],by rw[hact.O];rfl,(by
       rw[hact.O];have h9:=YT.O;rw[kQ]at h9
       exact⟨_,rfl,h9.sl (by rw[hpl'.O];omega)⟩),Bj⟩
   ·have hact:=ah (show xq op l=none by rw[hop'.O];unfold xq;simp[hev,lS,ou,xY,sG,sW,nJ,zL,zx];omega)
    have hwi:∀W:World,Calls prog 43 #[l.length,.int .i64 2,.int .i64 6] W λe w'=>e=.returned (.bool false)/\W=w':=λW=>PO (mY.2 (by omega)) W
    go_enter func48,ntmps48
    go_wp2_with (go_at_call 43;refine(hwi _).mono ?_;rintro e w' ⟨rfl,rfl⟩)
    exact Ep (.inl rfl) ⟨rfl,rfl⟩ rfl (by rw[hact.O];exact⟨rfl,rfl⟩)
  ·have hei:¬(l.length:Int)%2=0:=by omega
   have hact:=ah (show xq op l=none by rw[hop'.O];unfold xq;simp[hev,lS,ou,xY,sG,sW,nJ,zL,zx])
   go_enter func48,ntmps48
   go_wp2_with fail;exact Ep (.inl rfl) ⟨rfl,rfl⟩ rfl (by rw[hact.O];exact⟨rfl,rfl⟩)
 ·have f8:¬(eY op).toList=[101,110,116,101,114]:=λh=>e8 (w8.1 h)
  have hact:=ah (show xq op l=none by unfold xq;simp[e1,e2,e3,e4,e5,e6,e7,e8])
  clear w1 w2 w3 w4 w5 w6 w7 w8 e1 e2 e3 e4 e5 e6 e7 e8;go_enter func48,ntmps48
  go_wp2_with fail;exact Ep (.inl rfl) ⟨rfl,rfl⟩ rfl (by rw[hact.O];exact⟨rfl,rfl⟩)
end
end Wh
