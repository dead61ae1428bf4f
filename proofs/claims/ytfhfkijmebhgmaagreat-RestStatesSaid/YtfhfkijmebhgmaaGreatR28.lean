/- Texts of the claim, joined. -/
import Derived.Deep.MidRow
import Derived.Deep.Slices
import Derived.Deep.Fields
import Derived.ChangeSame
import Derived.Test.YtfhfkijmebhgmaaGreatChecked
import Derived.KernelRfl
import Derived.Test.YtfhfkijmebhgmaaGreatR27
set_option maxHeartbeats 20000000
set_option maxRecDepth 100000
namespace Wh
open Go Go.RowKit Go.Shelf Go.Proofs Tryz
abbrev V4:=Value×Value×Value×Value
def cV4(x:V4):List Value:=[x.1,x.2.1,x.2.2.1,x.2.2.2]
theorem Own.as4{α:Type}{enc:α->List Value}{e:TypeId}{w:World}{aO:Nat}{v:Value}{l:List α}(f:α->V4)(hf:∀x,cV4 (f x)=enc x):Own enc 4 e w aO v l=Own cV4 4 e w aO v (l.map f):=by
 unfold Own;rw[fU,List.flatMap_map];congr 1
 exact kX (λg=>l.flatMap g) (funext λx=>(hf x).symm)
theorem Own.jtn{e:TypeId}{w:World}{aO:Nat}{l:List V4}{g n c:Nat}(h:Own cV4 4 e w aO (.slice (some ⟨g,0,none⟩) n c) l){i:Nat}(hi:i<l.length)(y:V4):
  Own cV4 4 e (w.setCells g (i*4) (cV4 y)) aO (.slice (some ⟨g,0,none⟩) n c) (l.set i y)/\w.grownBy (w.setCells g (i*4) (cV4 y)) (some g):=by
 obtain⟨y0,y1,y2,y3⟩:=y;obtain⟨z,hz⟩:∃z,l[i]=z:=⟨_,rfl⟩;obtain⟨z0,z1,z2,z3⟩:=z;obtain⟨o0,g0⟩:=h.store (λ_=>rfl) hi (show 0<4 by decide) (y:=(y0,z1,z2,z3)) (u:=y0) (by rw[hz];rfl)
 have s0:(l.set i (y0,z1,z2,z3))[i]'(by rw[jU];exact hi)=(y0,z1,z2,z3):=pY _
 obtain⟨o1,g1⟩:=o0.store (λ_=>rfl) (by rw[jU];exact hi) (show 1<4 by decide) (y:=(y0,y1,z2,z3)) (u:=y1) (by rw[s0];rfl)
 rw[DV]at o1
 have s1:(l.set i (y0,y1,z2,z3))[i]'(by rw[jU];exact hi)=(y0,y1,z2,z3):=pY _
 obtain⟨o2,g2⟩:=o1.store (λ_=>rfl) (by rw[jU];exact hi) (show 2<4 by decide) (y:=(y0,y1,y2,z3)) (u:=y2) (by rw[s1];rfl)
 rw[DV]at o2
 have s2:(l.set i (y0,y1,y2,z3))[i]'(by rw[jU];exact hi)=(y0,y1,y2,z3):=pY _
 obtain⟨o3,g3⟩:=o2.store (λ_=>rfl) (by rw[jU];exact hi) (show 3<4 by decide) (y:=(y0,y1,y2,y3)) (u:=y3) (by rw[s2];rfl)
 rw[DV]at o3
 exact⟨o3,JX (JX (JX g0 g1) g2) g3⟩
theorem Own.jd7{α:Type}{enc:α->List Value}{e:TypeId}{w:World}{aO:Nat}{l:List α}{g n c:Nat}(f:α->V4)(hf:∀x,cV4 (f x)=enc x)(h:Own enc 4 e w aO (.slice (some ⟨g,0,none⟩) n c) l){i:Nat}(hi:i<l.length)(y:α):
  Own enc 4 e (w.setCells g (i*4) (enc y)) aO (.slice (some ⟨g,0,none⟩) n c) (l.set i y)/\w.grownBy (w.setCells g (i*4) (enc y)) (some g):=by
 rw[Own.as4 f hf]at h
 have:=h.jtn (i:=i) (by rw[fU];exact hi) (f y)
 rw[hf,<- List.map_set,<- Own.as4 f hf]at this
 exact this
def jsA(x:dZ):V4:=(.int .i64 x.aC,.int .i64 x.aG,.int .i64 x.bin,.int .i64 x.n)
def jsy(x:Move):V4:=(.int .i64 x.dh,.int .i64 x.src,.int .i64 x.dst,.int .i64 x.n)
def jsz(x:Line):V4:=(.int .i64 x.dh,.int .i64 x.iw,.int .i64 x.oh,.int .i64 x.dP)
namespace dK
variable {w w':World} {aO:Nat} {V:SV} {s:aJ}
theorem jlO(h:dK w aO V s){k:Nat}(hk:k<s.aA.length){g n c:Nat}(hv:V.aA=.slice (some ⟨g,0,none⟩) n c)(y:dZ):
  dK (w.setCells g (k*4) (ig y)) aO V {s with aA:=s.aA.set k y}/\w.grownBy (w.setCells g (k*4) (ig y)) (some g):=by
 have hl:=h.aA;rw[hv]at hl
 obtain⟨o1,hg⟩:=hl.jd7 jsA (λ_=>rfl) hk y
 have hob:V.aA.ownBlock=some g:=by rw[hv];rfl
 rw[<- hv]at o1
 exact⟨h.U4 (by rw[hob];exact hg) o1,hg⟩
theorem jlJ(h:dK w aO V s){k:Nat}(hk:k<s.aF.length){g n c:Nat}(hv:V.aF=.slice (some ⟨g,0,none⟩) n c)(y:Move):
  dK (w.setCells g (k*4) (nP y)) aO V {s with aF:=s.aF.set k y}/\w.grownBy (w.setCells g (k*4) (nP y)) (some g):=by
 have hl:=h.aF;rw[hv]at hl
 obtain⟨o1,hg⟩:=hl.jd7 jsy (λ_=>rfl) hk y
 have hob:V.aF.ownBlock=some g:=by rw[hv];rfl
 rw[<- hv]at o1
 exact⟨h.VJ (by rw[hob];exact hg) o1,hg⟩
theorem jlN(h:dK w aO V s){o k:Nat}(ho:o<s.ak.length)(hk:k<(s.aC o).aH.length){gl n c:Nat}(hv:V.aG o=.slice (some ⟨gl,0,none⟩) n c)(y:Line):
  dK (w.setCells gl (k*4) (kP y)) aO V (s.lY o k y)/\w.grownBy (w.setCells gl (k*4) (kP y)) (some gl):=by
 have hl:=h.aG o ho;have hl':=hl;rw[hv]at hl'
 obtain⟨o1,hg⟩:=hl'.jd7 jsz (λ_=>rfl) hk y
 have hob:(V.aG o).ownBlock=some gl:=by rw[hv];rfl
 have hg':w.grownBy (w.setCells gl (k*4) (kP y)) (V.aG o).ownBlock:=by rw[hob];exact hg
 have kD:(s.lY o k y).ak.length=s.ak.length:=by unfold aJ.lY;simp
 have hor:∀o',(s.lY o k y).aC o'=if o'=o then {s.aC o with aH:=(s.aC o).aH.set k y}else s.aC o':=λo'=>SE ho
 refine⟨⟨h.on.kept hg' (h.on.apart hl (by decide)),h.rlen,λb hb=>(h.row b hb).kept hg' ((h.row b hb).apart hl (by decide)),?_,by rw[kD];exact h.llen,λo' ho'=>?_,h.aA.kept hg' (h.aA.apart hl (by decide)),h.aF.kept hg' (h.aF.apart hl (by decide)),h.gY.kept hg' (h.gY.apart hl (by decide)),h.O.kept hg' (h.O.apart hl (by decide)),h.bg.kept hg' (h.bg.apart hl (by decide)),h.apart,h.yS⟩,hg⟩
 ·have e:zI (s.lY o k y).ak V.aH=zI s.ak V.aH:=jbj rfl;rw[e];exact h.ak.kept hg' (h.ak.apart hl (by decide))
 ·rw[kD]at ho'
  rw[hor];by_cases he:o'=o
  ·subst he;rw[aB rfl,hv];exact o1
  ·rw[ay he];exact(h.aG o' ho').kept hg' (Lr h.yS (by rw[h.llen];exact ho') (by rw[h.llen];exact ho) he)
theorem jlh(h:dK w aO V s){b:Nat}(hb:b<s.on.length):∃go co cur A c,V.on=.slice (some ⟨go,0,none⟩) s.on.length co/\iV w go 23 cur/\w.cell? ⟨go,b,none⟩=some (.slice A (fO s.on b).length c)/\V.row b=.slice A (fO s.on b).length c:=by
 have hbl:b<V.rows.length:=by rw[h.rlen];exact hb
 obtain⟨go,co,PE,h1,h2,h3,h4⟩:=h.on.at (λ_=>rfl) hbl
 obtain⟨A,c,e1⟩:=(h.row b hb).isSlice;have e:V.rows[b]=V.row b:=by unfold SV.row;simp[hbl]
 have h5:=h4 0 (V.row b) (by rw[e];rfl)
 rw[nC,jB]at h5
 rw[h.rlen]at h1
 exact⟨go,co,PE,A,c,h1,h3,by rw[<- e1];exact h5,e1⟩
end dK
section
variable {ops:Array Oper} {rest:List Oper} {o:Oper} {a:Act} {w:World} {Q:Exit→Act→World→Prop} {aO b:Nat} {t:TypeId} {cs:List Value} {V:SV} {s:aJ}
theorem jc7{g o:Nat}{a b c d:Value}{e:TypeId}{cur:List Value}(hb:iV w g e cur)(h0:w.cell? ⟨g,o,none⟩=some a)(h1:w.cell? ⟨g,o+1,none⟩=some b)(h2:w.cell? ⟨g,o+2,none⟩=some c)(h3:w.cell? ⟨g,o+3,none⟩=some d):w.there g o 4:=λj hj=>by
 obtain⟨u,hu⟩:=jen hj h0 h1 h2 h3;exact⟨by rw[hu];rfl,hb.frozen _⟩
theorem jaL(hgd:o.guard=none)(x z:Operand)(ho:o.op=.store 46 x z)(hn:o.dst=none){k g n c:Nat}(y:dZ)(hB:Bx w aO b t cs V s)(hk:k<s.aA.length)(hv:V.aA=.slice (some ⟨g,0,none⟩) n c)
  (hx:a.eval x=.pointer (some ⟨g,k*4,none⟩)) (hz:a.eval z=.agg #[.int .i64 y.aC,.int .i64 y.aG,.int .i64 y.bin,.int .i64 y.n])
  (h:∀w',Bx w' aO b t cs V {s with aA:=s.aA.set k y}->Step (·=g) w w'->wpList prog ops Q rest a w'):wpList prog ops Q (o::rest) a w:=
 jv hgd λK hK=>by
  obtain⟨g',c',cur,e1,_,e3,f0,f1,f2,f3⟩:=hB.own.yR hk;rw[hv]at e1
  injection e1 with e1
  injection e1 with e1
  injection e1 with e1
  subst e1;obtain⟨h1,h2⟩:=hB.own.jlO hk hv y;have h3:=h _ ⟨hB.off e3 hB.ty.h5 h2,h1,hB.ty⟩ (.jR h2 λk hk=>by injection hk with hk;exact hk.symm)
  refine wp_store_mid (P:=prog) 46 x z ho g (k*4) #[.int .i64 y.aC,.int .i64 y.aG,.int .i64 y.bin,.int .i64 y.n] hx hz (jc7 e3 f0 f1 f2 f3) (by kernel_rfl) (by simp[Value.oneCell']) ?_
  rw[hn];exact hK _ _ h3
theorem jaJ(hgd:o.guard=none)(x z:Operand)(ho:o.op=.store 48 x z)(hn:o.dst=none){k g n c:Nat}(y:Move)(hB:Bx w aO b t cs V s)(hk:k<s.aF.length)(hv:V.aF=.slice (some ⟨g,0,none⟩) n c)
  (hx:a.eval x=.pointer (some ⟨g,k*4,none⟩)) (hz:a.eval z=.agg #[.int .i64 y.dh,.int .i64 y.src,.int .i64 y.dst,.int .i64 y.n])
  (h:∀w',Bx w' aO b t cs V {s with aF:=s.aF.set k y}->Step (·=g) w w'->wpList prog ops Q rest a w'):wpList prog ops Q (o::rest) a w:=
 jv hgd λK hK=>by
  obtain⟨g',c',cur,e1,_,e3,f0,f1,f2,f3⟩:=hB.own.bH hk;rw[hv]at e1
  injection e1 with e1
  injection e1 with e1
  injection e1 with e1
  subst e1;obtain⟨h1,h2⟩:=hB.own.jlJ hk hv y;have h3:=h _ ⟨hB.off e3 hB.ty.h6 h2,h1,hB.ty⟩ (.jR h2 λk hk=>by injection hk with hk;exact hk.symm)
  refine wp_store_mid (P:=prog) 48 x z ho g (k*4) #[.int .i64 y.dh,.int .i64 y.src,.int .i64 y.dst,.int .i64 y.n] hx hz (jc7 e3 f0 f1 f2 f3) (by kernel_rfl) (by simp[Value.oneCell']) ?_
  rw[hn];exact hK _ _ h3
theorem jaK(hgd:o.guard=none)(x z:Operand)(ho:o.op=.store 44 x z)(hn:o.dst=none){i k g n c:Nat}(y:Line)(hB:Bx w aO b t cs V s)(hi:i<s.ak.length)(hk:k<(s.aC i).aH.length)(hv:V.aG i=.slice (some ⟨g,0,none⟩) n c)
  (hx:a.eval x=.pointer (some ⟨g,k*4,none⟩)) (hz:a.eval z=.agg #[.int .i64 y.dh,.int .i64 y.iw,.int .i64 y.oh,.int .i64 y.dP])
  (h:∀w',Bx w' aO b t cs V (s.lY i k y)->Step (·=g) w w'->wpList prog ops Q rest a w'):wpList prog ops Q (o::rest) a w:=
 jv hgd λK hK=>by
  obtain⟨g',c',cur,e1,_,e3,f0,f1,f2,f3⟩:=hB.own.gK hi hk;rw[hv]at e1
  injection e1 with e1
  injection e1 with e1
  injection e1 with e1
  subst e1;obtain⟨h1,h2⟩:=hB.own.jlN hi hk hv y;have h3:=h _ ⟨hB.off e3 hB.ty.h4 h2,h1,hB.ty⟩ (.jR h2 λk hk=>by injection hk with hk;exact hk.symm)
  refine wp_store_mid (P:=prog) 44 x z ho g (k*4) #[.int .i64 y.dh,.int .i64 y.iw,.int .i64 y.oh,.int .i64 y.dP] hx hz (jc7 e3 f0 f1 f2 f3) (by kernel_rfl) (by simp[Value.oneCell']) ?_
  rw[hn];exact hK _ _ h3
end
structure Like(s' s:aJ):Prop where
 on:s'.on.length=s.on.length
 row:∀b,(fO s'.on b).length=(fO s.on b).length
 ak:s'.ak.length=s.ak.length
 aG:∀o,(s'.aC o).aH.length=(s.aC o).aH.length
 aA:s'.aA.length=s.aA.length
 aF:s'.aF.length=s.aF.length
 gY:s'.gY.length=s.gY.length
 bg:s'.bg.length=s.bg.length
namespace Like
variable {s' s:aJ}
theorem refl(s:aJ):Like s s:=⟨rfl,λ_=>rfl,rfl,λ_=>rfl,rfl,rfl,rfl,rfl⟩
theorem Yv(h:Like s' s)(b g:Nat)(q:Int):Like {s' with on:=setCell s'.on b g q} s:=
 ⟨by rw[qh];exact h.on,λi=>by rw[uq];exact h.row i,h.ak,h.aG,h.aA,h.aF,h.gY,h.bg⟩
theorem lY(h:Like s' s){o k:Nat}(ho:o<s'.ak.length)(y:Line):Like (s'.lY o k y) s:=by
 refine⟨h.on,h.row,by unfold aJ.lY;simpa using h.ak,λi=>?_,h.aA,h.aF,h.gY,h.bg⟩
 have hor:(s'.lY o k y).aC i=if i=o then {s'.aC o with aH:=(s'.aC o).aH.set k y}else s'.aC i:=dK.SE ho
 rw[hor];split
 ·rename_i he
  subst he;simpa using h.aG _
 ·exact h.aG i
theorem jkV(h:Like s' s)(k:Nat)(y:dZ):Like {s' with aA:=s'.aA.set k y} s:=⟨h.on,h.row,h.ak,h.aG,by simpa using h.aA,h.aF,h.gY,h.bg⟩
theorem jkI(h:Like s' s)(k:Nat)(y:Move):Like {s' with aF:=s'.aF.set k y} s:=⟨h.on,h.row,h.ak,h.aG,h.aA,by simpa using h.aF,h.gY,h.bg⟩
theorem jg8(h:Like s' s)(k:Nat)(y:Int):Like {s' with gY:=s'.gY.set k y} s:=⟨h.on,h.row,h.ak,h.aG,h.aA,h.aF,by simpa using h.gY,h.bg⟩
theorem jha(h:Like s' s)(k:Nat)(y:Int):Like {s' with bg:=s'.bg.set k y} s:=⟨h.on,h.row,h.ak,h.aG,h.aA,h.aF,h.gY,by simpa using h.bg⟩
end Like
def Mine(aO b:Nat)(V:SV)(s:aJ)(w:World):Prop:=∃s',Bx w aO b 31 [] V s'/\Like s' s
end Wh
namespace Wh
open Go Go.RowKit Go.Shelf Go.Proofs Tryz
attribute [local go_sem] aT jW jm kC
structure Few(s:aJ):Prop where
 on:s.on.length<=1000
 row:∀b,(fO s.on b).length<=1000
 ak:s.ak.length<=1000
 aG:∀o,(s.aC o).aH.length<=1000
 aA:s.aA.length<=1000
 aF:s.aF.length<=1000
 gY:s.gY.length<=1000
 bg:s.bg.length<=1000
theorem joP{s:aJ}(hs:small s=true):Few s:=by
 unfold small at hs
 simp only[bG,bD,aX]at hs
 obtain⟨⟨⟨⟨⟨⟨⟨⟨s1,s2⟩,s3⟩,s4⟩,s5⟩,s6⟩,s7⟩,s8⟩,s9⟩:=hs;refine⟨s1,λb=>?_,s3,λo=>?_,s5,s6,s7,s9⟩
 ·by_cases h:b<s.on.length
  ·rw[xZ h];exact s2 _ (bU h)
  ·have:fO s.on b=[]:=by unfold fO;simp[qK h]
   rw[this];exact aK _
 ·by_cases h:o<s.ak.length
  ·unfold aJ.aC;rw[uy h];exact s4 _ (bU h)
  ·have:(s.aC o).aH=[]:=by unfold aJ.aC aU;simp[qK h,Gw]
   rw[this];exact aK _
theorem restStatesWalk(w:World)(v vs vd:Value)(p:dA)(s:aJ)(x:yK)(hp:mW w w.heap.size v p)(hv:lK w w.heap.size vs s)(hd:Ur w w.heap.size vd x)(hcap:Si vs):
  Calls prog 3 #[v,vs,vd] w λe w'=>e=.returned (.bool true)/\Below w.heap.size w w':=by
 have hcap':=ah hcap;obtain⟨Ab,cb,As,cs,rfl,hP',hBn,hSz,hlb,hls⟩:=sN hp;obtain⟨A0,c0,A1,c1,A2,c2,A3,c3,A4,c4,A5,c5,A6,c6,rfl,hV,hN,hO,hH,hM,hI,hU,hX,hl0,hl1,hl2,hl3,hl4,hl5,JA⟩:=oW hv;obtain⟨Al,cl,rfl,hDV,hLn,hll⟩:=Rf hd;clear hd hp hv hcap;by_cases hc:aQ p s=0
 ·have hcs:=ah hc;have hsn:=ah (jf hc).sane;obtain⟨y,c,hact⟩:∃y c,act p s x=(y,c):=⟨_,_,rfl⟩;have YV:=ah hact;have jn9:=ah (show small y=true by have:=QN p s x;rwa [hact]at this)
  have hfew:=joP jn9.O;clear hc hact;go_enter func3,ntmps3
  go_wp2_with fail;obtain⟨W0,hW0,hb0,hsE,hK,hD⟩:=Zg w p s Ab cb As cs A0 c0 A1 c1 A2 c2 A3 c3 A4 c4 A5 c5 A6 c6 x.dW x.a x.b x.c x.n Al x.aH.length cl;rw[hW0];clear hW0;obtain⟨⟨y0,y1⟩,x0,x1,x2,x3,x4,x5,x6,eP,eU⟩:=hK.O W0 (aj W0.heap.size W0);go_wp2_with fail;clear y0 y1 x0 x1 x2 x3 x4 x5 x6 eP eU;refine(jaM _ _ _ (hP'.O _ hb0) (hV.O _ hb0) hcs.O).mono ?_
  rintro e W1 ⟨rfl,h01⟩;have hB1:=hb0.trans (h01.mono hb0.size);obtain⟨⟨y0,y1⟩,x0,x1,x2,x3,x4,x5,x6,eP,eU⟩:=hK.O W1 (h01);go_wp2_with fail;clear y0 y1 x0 x1 x2 x3 x4 x5 x6 eP eU;refine(EI _ _ p s (hV.O _ hB1) hsn.O).mono ?_
  rintro e W2 ⟨_,rfl,⟨V0,rfl,ho2⟩,h2⟩;have jmt:=(ho2).one;have jrE:=vG (W2);go_wp2_with (refine dB (.tmp 7) (.tmp 28) dH V0 rfl jrE rfl jmt (λw3 Nb hg3=>?_);refine aW ?_)
  unfold Hid;have joK:=qX hg3;have H6:=Nb.lt;clear jmt jrE hg3;have h13:=h2.trans (joK.mono h2.size);have h03:=h01.trans (h13.mono h01.size);have hB3:=hb0.trans (h03.mono hb0.size);have hv3:=ah ((ho2.below joK).view0 (OB hcs.O));have N9:=ah Nb;clear ho2 h2 joK Nb h13 h01 hB1;generalize W2.heap.size=b7 at N9 H6 ⊢
  obtain⟨d0,d1,d2,d3,d4,d5,dl⟩:=hD.O _ h03;obtain⟨⟨y0,y1⟩,x0,x1,x2,x3,x4,x5,x6,eP,eU⟩:=hK.O w3 (h03);go_wp2_with fail;clear y0 y1 x0 x1 x2 x3 x4 x5 x6 eP eU;clear d0 d1 d2 d3 d4 d5 dl;refine(jiw YV.O _ _ _ _ (hP'.O _ hB3) (hV.O _ hB3) (hDV.O _ hB3)).mono ?_
  rintro e W4 ⟨V1,rfl,Uw,h4⟩;obtain⟨G0,n0,e0⟩:=Uw.on.isSlice;rw[Uw.rlen]at e0
  obtain⟨G1,n1,e1⟩:=Uw.ak.isSlice;rw[uJ Uw.llen]at e1
  obtain⟨G2,n2,e2⟩:=Uw.aA.isSlice;obtain⟨G3,n3,e3⟩:=Uw.aF.isSlice;obtain⟨G4,n4,e4⟩:=Uw.gY.isSlice;obtain⟨G6,n6,e6⟩:=Uw.bg.isSlice;obtain⟨k0,k1,k2,k3,k4,k5,k6,k7,k8⟩:=V1;simp only at e0 e1 e2 e3 e4 e6
  subst e0 e1 e2 e3 e4 e6;have jms:=(Uw).one;have jq9:=vG (W4);go_wp2_with (refine dB (.tmp 8) (.tmp 34) dH (⟨.slice G0 y.on.length n0,.slice G1 y.ak.length n1,.slice G2 y.aA.length n2,.slice G3 y.aF.length n3,.slice G4 y.gY.length n4,k5,.slice G6 y.bg.length n6,k7,k8⟩:SV) rfl jq9 rfl jms (λw5 Jl hg5=>?_);refine aW ?_)
  unfold Hid;have joJ:=qX hg5;have jnW:=Jl.lt;clear jms jq9 hg5;have h35:=h4.trans (joJ.mono h4.size);have o8:=ah (show Mine w3.heap.size W4.heap.size ⟨.slice G0 y.on.length n0,.slice G1 y.ak.length n1,.slice G2 y.aA.length n2,.slice G3 y.aF.length n3,.slice G4 y.gY.length n4,k5,.slice G6 y.bg.length n6,k7,k8⟩ y w5 from⟨y,Bx.of Jl (Uw.below joJ),Like.refl y⟩)
  have jt7:=h4.size;clear Uw joJ Jl jnW h4;generalize W4.heap.size=b8 at o8 jt7 ⊢
  obtain⟨V,hV8⟩:∃V:SV,(⟨.slice G0 y.on.length n0,.slice G1 y.ak.length n1,.slice G2 y.aA.length n2,.slice G3 y.aF.length n3,.slice G4 y.gY.length n4,k5,.slice G6 y.bg.length n6,k7,k8⟩:SV)=V:=⟨_,rfl⟩;rw[hV8]at o8
  have z0:=ah (show V.on=.slice G0 y.on.length n0 by rw[<- hV8])
  have z1:=ah (show V.ak=.slice G1 y.ak.length n1 by rw[<- hV8])
  have z2:=ah (show V.aA=.slice G2 y.aA.length n2 by rw[<- hV8])
  have z3:=ah (show V.aF=.slice G3 y.aF.length n3 by rw[<- hV8])
  have z4:=ah (show V.gY=.slice G4 y.gY.length n4 by rw[<- hV8])
  have z6:=ah (show V.bg=.slice G6 y.bg.length n6 by rw[<- hV8])
  clear hV8;have Va:=ah hfew;have hw0:=hfew.on;clear hfew;go_wp2_with fail;go_loopw[10,11] (λi _ wr=>∃k:Nat,k<=y.on.length/\i=.int .i64 k/\Mine w3.heap.size b8 V y wr/\Below w3.heap.size w3 wr) (λi _ _=>y.on.length - (RowKit.intOf i).toNat)
  case atStart=>exact⟨0,aK _,rfl,o8.O,h35⟩
  clear o8 h35;obtain⟨k,hk,rfl,hMr,h35⟩:=hrel;have o8:=ah hMr;obtain⟨y',hx,hL⟩:=hMr;have lb:=hx.lt;have c0:wr.cell? ⟨b8,0,none⟩=some (.slice G0 y.on.length n0):=by rw[<- z0.O];exact hx.cells.1
  clear hx hL;by_cases hlt:k<y.on.length
  ·have hki:(k:Int)<(y.on.length:Int):=by omega
   have hw1:=Va.O.row k;go_wp2_with fail;clear c0 lb;go_loopw[11] (λj wr=>∃m:Nat,m<=(fO y.on k).length/\j=.int .i64 m/\Mine w3.heap.size b8 V y wr/\Below w3.heap.size w3 wr) (λj _=>(fO y.on k).length - (RowKit.intOf j).toNat)
   case atStart=>exact⟨0,aK _,rfl,o8.O,h35⟩
   clear o8 h35;obtain⟨m,hm,rfl,hMr,h35⟩:=hrel;have o8:=ah hMr;obtain⟨y',hx,hL⟩:=hMr;have hx':=ah hx;have hL':=ah hL;have lb:=hx.lt;have c0:wr.cell? ⟨b8,0,none⟩=some (.slice G0 y.on.length n0):=by rw[<- z0.O];exact hx.cells.1
   have hky:k<y'.on.length:=by rw[hL.on];exact hlt
   have hrl:=hL.row k;clear hx hL;by_cases hmt:m<(fO y.on k).length
   ·have hmi:(m:Int)<((fO y.on k).length:Int):=by omega
    have hmy:m<(fO y'.on k).length:=by rw[hrl];exact hmt
    obtain⟨go,co,PE,gr,cr,cur,e1,hgo,Oa,r0,er,Wx,jjZ,rc⟩:=hx'.O.own.Py hky hmy;rw[z0.O]at e1
    have hG:G0=some ⟨go,0,none⟩:=by injection e1
    rw[hG]at c0
    rw[hrl]at r0
    have er':=ah er;have lg:=Oa.lt;have lr:=jjZ.lt;clear e1 hG er Oa jjZ hrl;go_wp2_with (refine GU rfl (.tmp 59) (.const (.int .i64 (-9))) rfl rfl (i:=k) (g:=m) (q:=-9) hx'.O hky hmy er'.O rfl rfl (λw7 hx7 Ee=>?_);refine aW ?_)
    unfold Hid;have h37:=h35.trans (Ee.below (B:=w3.heap.size) (λq hq=>by omega) h35.size)
    have hM7:=ah (show Mine w3.heap.size b8 V y w7 from⟨_,hx7,hL'.O.Yv k m (-9)⟩)
    clear hx7 Ee c0 r0 rc er' hx' hL' lb lg lr h35 o8;go_wp2_with fail;go_roundw
    case rel=>exact⟨m+1,by omega,by go_num,hM7.O,h37⟩
    case measure=>simp[RowKit.intOf];omega
   ·obtain rfl:m=(fO y.on k).length:=by omega
    obtain⟨go,co,cur,A,cA,e1,hbk,rc,_⟩:=hx'.O.own.jlh hky;rw[z0.O]at e1
    have hG:G0=some ⟨go,0,none⟩:=by injection e1
    rw[hG]at c0
    rw[hrl]at rc
    have lg:=hbk.lt;clear e1 hG hbk hrl hx' hL';go_wp2_with fail;clear c0 rc lb lg;go_roundw
    case rel=>exact⟨k+1,by omega,by go_num,o8.O,h35⟩
    case measure=>simp[RowKit.intOf];omega
  obtain rfl:k=y.on.length:=by omega
  go_wp2_with fail;clear c0 lb hlt hk hw0;have hw0:=Va.O.ak;go_loopw[12,13] (λi _ wr=>∃k:Nat,k<=y.ak.length/\i=.int .i64 k/\Mine w3.heap.size b8 V y wr/\Below w3.heap.size w3 wr) (λi _ _=>y.ak.length - (RowKit.intOf i).toNat)
  case atStart=>exact⟨0,aK _,rfl,o8.O,h35⟩
  clear o8 h35;obtain⟨k,hk,rfl,hMr,h35⟩:=hrel;have o8:=ah hMr;obtain⟨y',hx,hL⟩:=hMr;have lb:=hx.lt;have c0:wr.cell? ⟨b8,1,none⟩=some (.slice G1 y.ak.length n1):=by rw[<- z1.O];exact hx.cells.2.1
  clear hx hL;by_cases hlt:k<y.ak.length
  ·have hki:(k:Int)<(y.ak.length:Int):=by omega
   have hw1:=Va.O.aG k;go_wp2_with fail;clear c0 lb;go_loopw[13] (λj wr=>∃m:Nat,m<=(y.aC k).aH.length/\j=.int .i64 m/\Mine w3.heap.size b8 V y wr/\Below w3.heap.size w3 wr) (λj _=>(y.aC k).aH.length - (RowKit.intOf j).toNat)
   case atStart=>exact⟨0,aK _,rfl,o8.O,h35⟩
   clear o8 h35;obtain⟨m,hm,rfl,hMr,h35⟩:=hrel;have o8:=ah hMr;obtain⟨y',hx,hL⟩:=hMr;have hx':=ah hx;have hL':=ah hL;have lb:=hx.lt;have c0:wr.cell? ⟨b8,1,none⟩=some (.slice G1 y.ak.length n1):=by rw[<- z1.O];exact hx.cells.2.1
   have hky:k<y'.ak.length:=by rw[hL.ak];exact hlt
   have hrl:=hL.aG k;obtain⟨go,co,PE,e1,hgo,Oa,_,r0⟩:=hx.own.aU hky;rw[z1.O]at e1
   have hG:G1=some ⟨go,0,none⟩:=by injection e1
   rw[hG]at c0
   have lg:=Oa.lt;clear hx hL e1 hG Oa;by_cases hmt:m<(y.aC k).aH.length
   ·have hmi:(m:Int)<((y.aC k).aH.length:Int):=by omega
    have hmy:m<(y'.aC k).aH.length:=by rw[hrl];exact hmt
    obtain⟨gl,cl',cur,er,hgl,jjZ,f0,f1,f2,f3⟩:=hx'.O.own.gK hky hmy;have er':=ah er;rw[er,hrl]at r0
    have lr:=jjZ.lt;clear er jjZ hrl;go_wp2_with (refine jaK rfl (.tmp 86) (.tmp 85) rfl rfl (i:=k) (k:=m) ⟨0,0,0,0⟩ hx'.O hky hmy er'.O rfl rfl (λw7 hx7 Ee=>?_);refine aW ?_)
    unfold Hid;have h37:=h35.trans (Ee.below (B:=w3.heap.size) (λq hq=>by omega) h35.size)
    have hM7:=ah (show Mine w3.heap.size b8 V y w7 from⟨_,hx7,hL'.O.lY hky _⟩)
    clear hx7 Ee c0 r0 f0 f1 f2 f3 er' hx' hL' lb lg lr h35 o8;go_wp2_with fail;go_roundw
    case rel=>exact⟨m+1,by omega,by go_num,hM7.O,h37⟩
    case measure=>simp[RowKit.intOf];omega
   ·obtain rfl:m=(y.aC k).aH.length:=by omega
    obtain⟨A,cA,er⟩:=(hx'.O.own.aG k hky).isSlice;rw[er,hrl]at r0
    clear er hrl hx' hL';go_wp2_with fail;clear c0 r0 lb lg;go_roundw
    case rel=>exact⟨k+1,by omega,by go_num,o8.O,h35⟩
    case measure=>simp[RowKit.intOf];omega
  obtain rfl:k=y.ak.length:=by omega
  go_wp2_with fail;clear c0 lb hlt hk hw0;have hw0:=Va.O.aA;go_loopw[14] (λi wr=>∃k:Nat,k<=y.aA.length/\i=.int .i64 k/\Mine w3.heap.size b8 V y wr/\Below w3.heap.size w3 wr) (λi _=>y.aA.length - (RowKit.intOf i).toNat)
  case atStart=>exact⟨0,aK _,rfl,o8.O,h35⟩
  clear o8 h35;obtain⟨k,hk,rfl,hMr,h35⟩:=hrel;have o8:=ah hMr;obtain⟨y',hx,hL⟩:=hMr;have hx':=ah hx;have hL':=ah hL;have lb:=hx.lt;have c0:wr.cell? ⟨b8,2,none⟩=some (.slice G2 y.aA.length n2):=by rw[<- z2.O];exact hx.cells.2.2.1
  clear hx hL;by_cases hlt:k<y.aA.length
  ·have hki:(k:Int)<(y.aA.length:Int):=by omega
   have hky:k<y'.aA.length:=by rw[hL'.O.aA];exact hlt
   obtain⟨g,cg,cur,e1,hgb,hbk,f0,f1,f2,f3⟩:=hx'.O.own.yR hky;have e1':=ah e1;rw[z2.O]at e1
   have hG:G2=some ⟨g,0,none⟩:=by injection e1
   rw[hG]at c0
   have lg:=hbk.lt;clear e1 hG hbk;go_wp2_with (refine jaL rfl (.tmp 98) (.tmp 97) rfl rfl ⟨0,0,0,0⟩ hx'.O hky e1'.O rfl rfl (λw7 hx7 Ee=>?_);refine aW ?_)
   unfold Hid;have h37:=h35.trans (Ee.below (B:=w3.heap.size) (λq hq=>by omega) h35.size)
   have hM7:=ah (show Mine w3.heap.size b8 V y w7 from⟨_,hx7,hL'.O.jkV k _⟩)
   clear hx7 Ee c0 f0 f1 f2 f3 e1' hx' hL' lb lg h35 o8;go_wp2_with fail;go_roundw
   case rel=>exact⟨k+1,by omega,by go_num,hM7.O,h37⟩
   case measure=>simp[RowKit.intOf];omega
  obtain rfl:k=y.aA.length:=by omega
  clear hx' hL';go_wp2_with fail;clear c0 lb hlt hk hw0;have hw0:=Va.O.aF;go_loopw[15] (λi wr=>∃k:Nat,k<=y.aF.length/\i=.int .i64 k/\Mine w3.heap.size b8 V y wr/\Below w3.heap.size w3 wr) (λi _=>y.aF.length - (RowKit.intOf i).toNat)
  case atStart=>exact⟨0,aK _,rfl,o8.O,h35⟩
  clear o8 h35;obtain⟨k,hk,rfl,hMr,h35⟩:=hrel;have o8:=ah hMr;obtain⟨y',hx,hL⟩:=hMr;have hx':=ah hx;have hL':=ah hL;have lb:=hx.lt;have c0:wr.cell? ⟨b8,3,none⟩=some (.slice G3 y.aF.length n3):=by rw[<- z3.O];exact hx.cells.2.2.2.1
  clear hx hL;by_cases hlt:k<y.aF.length
  ·have hki:(k:Int)<(y.aF.length:Int):=by omega
   have hky:k<y'.aF.length:=by rw[hL'.O.aF];exact hlt
   obtain⟨g,cg,cur,e1,hgb,hbk,f0,f1,f2,f3⟩:=hx'.O.own.bH hky;have e1':=ah e1;rw[z3.O]at e1
   have hG:G3=some ⟨g,0,none⟩:=by injection e1
   rw[hG]at c0
   have lg:=hbk.lt;clear e1 hG hbk;go_wp2_with (refine jaJ rfl (.tmp 110) (.tmp 109) rfl rfl ⟨0,0,0,0⟩ hx'.O hky e1'.O rfl rfl (λw7 hx7 Ee=>?_);refine aW ?_)
   unfold Hid;have h37:=h35.trans (Ee.below (B:=w3.heap.size) (λq hq=>by omega) h35.size)
   have hM7:=ah (show Mine w3.heap.size b8 V y w7 from⟨_,hx7,hL'.O.jkI k _⟩)
   clear hx7 Ee c0 f0 f1 f2 f3 e1' hx' hL' lb lg h35 o8;go_wp2_with fail;go_roundw
   case rel=>exact⟨k+1,by omega,by go_num,hM7.O,h37⟩
   case measure=>simp[RowKit.intOf];omega
  obtain rfl:k=y.aF.length:=by omega
  clear hx' hL';go_wp2_with fail;clear c0 lb hlt hk hw0;have hw0:=Va.O.gY;go_loopw[16] (λi wr=>∃k:Nat,k<=y.gY.length/\i=.int .i64 k/\Mine w3.heap.size b8 V y wr/\Below w3.heap.size w3 wr) (λi _=>y.gY.length - (RowKit.intOf i).toNat)
  case atStart=>exact⟨0,aK _,rfl,o8.O,h35⟩
  clear o8 h35;obtain⟨k,hk,rfl,hMr,h35⟩:=hrel;have o8:=ah hMr;obtain⟨y',hx,hL⟩:=hMr;have hx':=ah hx;have hL':=ah hL;have lb:=hx.lt;have c0:wr.cell? ⟨b8,4,none⟩=some (.slice G4 y.gY.length n4):=by rw[<- z4.O];exact hx.cells.2.2.2.2.1
  clear hx hL;by_cases hlt:k<y.gY.length
  ·have hki:(k:Int)<(y.gY.length:Int):=by omega
   have hky:k<y'.gY.length:=by rw[hL'.O.gY];exact hlt
   obtain⟨g,cg,cur,e1,hgb,hbk,f0⟩:=dK.BF hx'.O.own.gY hky;have e1':=ah e1;rw[z4.O]at e1
   have hG:G4=some ⟨g,0,none⟩:=by injection e1
   rw[hG]at c0
   have lg:=hbk.lt;clear e1 hG hbk;go_wp2_with (refine jgj rfl (.tmp 121) (.const (.int .i64 (-9))) rfl rfl (q:=-9) hx'.O hky e1'.O rfl rfl (λw7 hx7 Ee=>?_);refine aW ?_)
   unfold Hid;have h37:=h35.trans (Ee.below (B:=w3.heap.size) (λq hq=>by omega) h35.size)
   have hM7:=ah (show Mine w3.heap.size b8 V y w7 from⟨_,hx7,hL'.O.jg8 k _⟩)
   clear hx7 Ee c0 f0 e1' hx' hL' lb lg h35 o8;go_wp2_with fail;go_roundw
   case rel=>exact⟨k+1,by omega,by go_num,hM7.O,h37⟩
   case measure=>simp[RowKit.intOf];omega
  obtain rfl:k=y.gY.length:=by omega
  clear hx' hL';go_wp2_with fail;clear c0 lb hlt hk hw0;have hw0:=Va.O.bg;go_loopw[17] (λi wr=>∃k:Nat,k<=y.bg.length/\i=.int .i64 k/\Mine w3.heap.size b8 V y wr/\Below w3.heap.size w3 wr) (λi _=>y.bg.length - (RowKit.intOf i).toNat)
  case atStart=>exact⟨0,aK _,rfl,o8.O,h35⟩
  clear o8 h35;obtain⟨k,hk,rfl,hMr,h35⟩:=hrel;have o8:=ah hMr;obtain⟨y',hx,hL⟩:=hMr;have hx':=ah hx;have hL':=ah hL;have lb:=hx.lt;have c0:wr.cell? ⟨b8,6,none⟩=some (.slice G6 y.bg.length n6):=by rw[<- z6.O];exact hx.cells.2.2.2.2.2.2
  clear hx hL;by_cases hlt:k<y.bg.length
  ·have hki:(k:Int)<(y.bg.length:Int):=by omega
   have hky:k<y'.bg.length:=by rw[hL'.O.bg];exact hlt
   obtain⟨g,cg,cur,e1,hgb,hbk,f0⟩:=dK.BF hx'.O.own.bg hky;have e1':=ah e1;rw[z6.O]at e1
   have hG:G6=some ⟨g,0,none⟩:=by injection e1
   rw[hG]at c0
   have lg:=hbk.lt;clear e1 hG hbk;go_wp2_with (refine TF rfl (.tmp 132) (.const (.int .i64 (-9))) rfl rfl (q:=-9) hx'.O hky e1'.O rfl rfl (λw7 hx7 Ee=>?_);refine aW ?_)
   unfold Hid;have h37:=h35.trans (Ee.below (B:=w3.heap.size) (λq hq=>by omega) h35.size)
   have hM7:=ah (show Mine w3.heap.size b8 V y w7 from⟨_,hx7,hL'.O.jha k _⟩)
   clear hx7 Ee c0 f0 e1' hx' hL' lb lg h35 o8;go_wp2_with fail;go_roundw
   case rel=>exact⟨k+1,by omega,by go_num,hM7.O,h37⟩
   case measure=>simp[RowKit.intOf];omega
  obtain rfl:k=y.bg.length:=by omega
  clear hx' hL';have h0r:=h03.trans (h35.mono h03.size);have hBr:=hb0.trans (h0r.mono hb0.size);have jqw:=ah (hv3.O.grow h35);have jfe:=ah (N9.O.below h35 H6);clear o8 hv3 N9 H6 z0 z1 z2 z3 z4 z6 h35;obtain⟨d0,d1,d2,d3,d4,d5,dl⟩:=hD.O _ h0r;obtain⟨⟨y0,y1⟩,x0,x1,x2,x3,x4,x5,x6,eP,eU⟩:=hK.O wr (h0r);go_wp2_with fail;clear y0 y1 x0 x1 x2 x3 x4 x5 x6 eP eU;clear d0 d1 d2 d3 d4 d5 dl c0 lb hlt hk hw0;refine(jiw YV.O _ _ _ _ (hP'.O _ hBr) (hV.O _ hBr) (hDV.O _ hBr)).mono ?_
  rintro e W6 ⟨V2,rfl,ho6,h6⟩;have jmr:=(ho6).one;have jqY:=vG (W6);go_wp2_with (refine dB (.tmp 18) (.tmp 138) dH V2 rfl jqY rfl jmr (λw7 DR LC=>?_);refine aW ?_)
  unfold Hid;have joI:=qX LC;have Uy:=DR.lt;clear jmr jqY LC;have h67:=h6.trans (joI.mono h6.size);have h07:=h0r.trans (h67.mono h0r.size);have YW:=hb0.trans (h07.mono hb0.size);have hu7:=ah ((ho6.below joI).view0 jn9.O);have SY:=ah DR;have hv7:=ah (jqw.O.grow h67);have hw7:=ah (jfe.O.below h67 jfe.O.lt);clear ho6 h6 joI DR jqw jfe h67 h0r hBr;generalize W6.heap.size=b18 at SY Uy ⊢
  obtain⟨d0,d1,d2,d3,d4,d5,dl⟩:=hD.O _ h07;obtain⟨⟨y0,y1⟩,x0,x1,x2,x3,x4,x5,x6,eP,eU⟩:=hK.O w7 (h07);go_wp2_with fail;clear y0 y1 x0 x1 x2 x3 x4 x5 x6 eP eU;clear d0 d1 d2 d3 d4 d5 dl;refine(jlM _ _ _ _ p s x (hP'.O _ YW) (hV.O _ YW) (hDV.O _ YW) hcap'.O).mono ?_
  rintro e W8 ⟨V3,rfl,ho8,h8⟩;rw[YV.O]at ho8 ⊢
  simp only at ho8 ⊢
  have lG:=(ho8).one;have jqK:=vG (W8);go_wp2_with (refine dB (.tmp 20) (.tmp 145) dH V3 rfl jqK rfl lG (λw9 dM je=>?_);refine aW ?_)
  unfold Hid;have joH:=qX je;have jrJ:=dM.lt;clear lG jqK je;have h79:=h8.trans (joH.mono h8.size);have h09:=h07.trans (h79.mono h07.size);have LD:=hb0.trans (h09.mono hb0.size);have hz9:=ah ((ho8.below joH).view0 jn9.O);have hu9:=ah (hu7.O.grow h79);have Np:=ah (hv7.O.grow h79);have jjl:=ah dM;have jjv:=ah (SY.O.below h79 Uy);have hw9:=ah (hw7.O.below h79 hw7.O.lt);clear ho8 h8 joH dM hu7 hv7 SY Uy hw7 h79 h07 YW;generalize W8.heap.size=b20 at jjl jrJ ⊢
  go_wp2_with fail;refine(Rk _).mono ?_
  rintro e W10 ⟨rfl,h10⟩;have h010:=h09.trans (h10.mono h09.size);have jcd:=hb0.trans (h010.mono hb0.size);have hx3:=Np.O.grow h10;have hx4:=hV.O _ jcd;obtain⟨⟨y0,y1⟩,x0,x1,x2,x3,x4,x5,x6,eP,eU⟩:=hK.O W10 (h010);obtain⟨p0,p1,p2,p3,p4,p5,p6⟩:=(hw9.O.below h10 hw9.O.lt).cells;go_wp2_with fail;clear y0 y1 x0 x1 x2 x3 x4 x5 x6 eP eU;clear p0 p1 p2 p3 p4 p5 p6;refine(JK _ _ _ _ hx4 hx3).mono ?_
  rintro e W11 ⟨rfl,h11⟩;have h9b:=h10.trans (h11.mono h10.size);have hx1:=hu9.O.grow h9b;have hx2:=hz9.O.grow h9b;clear hx3 hx4;obtain⟨p0,p1,p2,p3,p4,p5,p6⟩:=(jjv.O.below h9b jjv.O.lt).cells;obtain⟨q0,q1,q2,q3,q4,q5,q6⟩:=(jjl.O.below h9b jrJ).cells;go_wp2_with fail;clear p0 p1 p2 p3 p4 p5 p6 q0 q1 q2 q3 q4 q5 q6;refine(JK _ _ _ _ hx1 hx2).mono ?_
  rintro e W12 ⟨rfl,h12⟩;go_wp2_with fail;go_ret
  exact⟨rfl,(LD.trans (h9b.mono LD.size)).trans (h12.mono (LD.trans (h9b.mono LD.size)).size)⟩
 ·obtain⟨z,hz⟩:∃z,aQ p s=z:=⟨_,rfl⟩;rw[hz]at hc
  have hne:(z !=0)=true:=by simpa using hc
  have hz':=ah hz;clear hc hz;go_enter func3,ntmps3
  go_wp2_with fail;obtain⟨W0,hW0,hb0,hsE,hK,hD⟩:=Zg w p s Ab cb As cs A0 c0 A1 c1 A2 c2 A3 c3 A4 c4 A5 c5 A6 c6 x.dW x.a x.b x.c x.n Al x.aH.length cl;rw[hW0];clear hW0;obtain⟨⟨y0,y1⟩,x0,x1,x2,x3,x4,x5,x6,eP,eU⟩:=hK.O W0 (aj W0.heap.size W0);go_wp2_with fail;clear y0 y1 x0 x1 x2 x3 x4 x5 x6 eP eU;refine(jaM _ _ _ (hP'.O _ hb0) (hV.O _ hb0) hz'.O).mono ?_
  rintro e W1 ⟨rfl,h01⟩;have hB1:=hb0.trans (h01.mono hb0.size);go_wp2_with fail;refine(Rk _).mono ?_
  rintro e W9 ⟨rfl,h9⟩;go_wp2_with fail;go_ret
  exact⟨rfl,hB1.trans (h9.mono hB1.size)⟩
end Wh
namespace Wh
open Go Go.RowKit Go.ChangeShapes Go.WideShapes Go.Deep
theorem cell_lt{w:World}{a:Addr}{v:Value}(h:w.cell? a=some v):a.block<w.heap.size:=by
 by_cases hlt:a.block<w.heap.size
 ·exact hlt
 ·unfold World.cell? at h
  rw[fZ (by omega)]at h
  simp at h
section
variable {H:Type} {en:TypeId×Value→H} {P:Program} {w:World} {aO:Nat} {sp:Nat→Bool} {hd:Bool}
def Rd(en:TypeId×Value->H)(P:Program)(w:World)(aO:Nat)(sp:Nat->Bool)(hd:Bool)(t:TypeId)(cs:List Value):Prop:=
 ∃(n:Nat) (x:DataW H×List MemPlace),DataW.trod en P w aO sp hd n t cs=some x/\∀k∈x.1.weights P t,k<=reachBytes
theorem Rd.int{t:TypeId}{cs:List Value}(ht:P.underlying t=some (.int .i64))(h:Rd en P w aO sp hd t cs):∃n,cs=[.int .i64 n]:=by
 obtain⟨n,x,h,_⟩:=h;obtain⟨m,hm,_⟩:=DataW.trod_int ht h;exact⟨m,hm⟩
theorem Rd.bool{t:TypeId}{cs:List Value}(ht:P.underlying t=some .bool)(h:Rd en P w aO sp hd t cs):∃b,cs=[.bool b]:=by
 obtain⟨n,x,h,_⟩:=h;obtain⟨m,hm,_⟩:=DataW.trod_bool ht h;exact⟨m,hm⟩
theorem Rd.fields{t:TypeId}{fs:Array Field}{cs:List Value}(hs:P.underlying t=some (.struct fs))(hone:oneCellFields P fs=true)(hC:P.cellsOf t=fs.size)(h:Rd en P w aO sp hd t cs):
  cs.length=fs.size/\∀(j:Nat) (f:Field),fs[j]?=some f->∃v,cs[j]?=some v/\Rd en P w aO sp hd f.type [v]:=by
 obtain⟨n,x,h,hw⟩:=h;obtain⟨xs,m,_,hx,kD,hxl,hf⟩:=DataW.trod_struct hs h;rw[hC]at kD
 refine⟨kD,λj f hj=>?_⟩
 have hjl:j<fs.size:=(bJ.1 hj).1
 obtain⟨ho,hk⟩:=hone_of hone j f hj;have h1:=hf j f hj;rw[ho,hk,jE (by omega)]at h1
 have hys:xs[j]?=some (xs[j]'(by omega)):=bf (by omega)
 refine⟨cs[j]'(by omega),bf (by omega),m,xs[j]'(by omega),by rw[<- hys,<- h1];rfl,λk hkm=>hw k ?_⟩
 rw[hx];simp only[DataW.weights,hs];refine Af (j:=j) (t:=f.type) (d:=(xs[j]'(by omega)).1) ?_ ?_ k hkm
 ·rw[iZ,Bq,hj];rfl
 ·rw[iZ,hys];rfl
theorem MV{e:TypeId}:∀ {ds:List (DataW H)} {j:Nat} {d:DataW H},ds[j]?=some d->∀n∈d.weights P e,n∈DataW.weightsAll P e ds
 |d0::ds,0,d,hd,n,hn=>by
  simp only[oN,mZ]at hd
  subst hd;simp only[DataW.weightsAll,jT];exact Or.inl hn
 |d0::ds,j+1,d,hd,n,hn=>by
  simp only[vw]at hd
  simp only[DataW.weightsAll,jT];exact Or.inr (MV hd n hn)
 |[],_,_,hd,_,_=>by simp at hd
theorem Rd.slice{t e:TypeId}{k:Nat}{cs:List Value}(ht:P.underlying t=some (.slice e))(hC:P.cellsOf e=k)(hB:0<P.bytesOf e)(h:Rd en P w aO sp hd t cs):
  ∃(A:Option Addr) (len c:Nat),cs=[.slice A len c]/\len<=140737488355232/\
   ∀i,i<len->∃cs',cs'.length=k/\Rd en P w aO sp hd e cs'/\∀j v,cs'[j]?=some v->okA A/\jd A<w.heap.size/\w.cell? ⟨jd A,ou A+(i*k+j),none⟩=some v:=by
 obtain⟨n,x,h,hw⟩:=h;rcases open_slice ht h with⟨rfl,_⟩|⟨a,len,cap,m,n',D,Pl,rfl,_,hl,_,hm,hx,hi⟩
 ·exact⟨none,0,0,rfl,by omega,λi hi=>by omega⟩
 ·have hlm:len<=m:=by rw[hm];split<;>omega
  have hreach:(len+(m - len))*P.bytesOf e<=reachBytes:=hw _ (by rw[hx];simp[DataW.weights,ht])
  have hspot:0<len->0<k->a.spot=none:=λh1 h2=>by
   obtain⟨cs',hc,_⟩:=hi 0 (by omega)
   rw[hC]at hc
   obtain⟨_,hcl,hat⟩:=World.cells?_some hc
   have yu:=hat 0 h2;rw[bf (by omega),add_add]at yu
   have:=World.cell?_spot yu
   simpa[Addr.add]using this
  refine⟨some a,len,cap,rfl,?_,λi hi'=>?_⟩
  ·have h1:len*1<=(len+(m - len))*P.bytesOf e:=uV (by omega) hB
   simp only[reachBytes]at hreach
   omega
  ·obtain⟨cs',hc,ht'⟩:=hi i (by omega)
   rw[hC]at hc
   obtain⟨_,hcl,hat⟩:=World.cells?_some hc
   refine⟨cs',hcl,⟨n',_,ht',λq hq=>hw q ?_⟩,λj v hj=>?_⟩
   ·rw[hx];simp only[DataW.weights,ht,jM,jT];refine .inr (.inl (MV (j:=i) (d:=D i) ?_ q hq))
    rw[iZ,nD hi'];rfl
   ·have hjl:j<k:=by rw[<- hcl];exact(eF.1 hj).1
    have yu:=hat j hjl;rw[hj,add_add]at yu
    obtain⟨b,off,spot⟩:=a;obtain rfl:spot=none:=hspot (by omega) (by omega)
    rw[gU]at yu
    exact⟨VG _ _,cell_lt (a:=⟨b,off+(i*k+j),none⟩) yu,yu⟩
theorem Rd.sl{α:Type}{enc:α->List Value}{k:Nat}{t e:TypeId}{cs:List Value}[Inhabited α](ht:P.underlying t=some (.slice e))(hC:P.cellsOf e=k)(hB:0<P.bytesOf e)(hk:∀x,(enc x).length=k)(h0:0<k)
  (hel:∀cs',cs'.length=k->Rd en P w aO sp hd e cs'->∃x:α,cs'=enc x) (h:Rd en P w aO sp hd t cs):∃v l,cs=[v]/\Sl enc w w.heap.size v l:=by
 obtain⟨A,len,c,rfl,kD,hi⟩:=h.slice ht hC hB;obtain⟨X,hX⟩:=choose_lt (α:=α) (n:=len) (p:=λi x=>∀j v,(enc x)[j]?=some v->okA A/\jd A<w.heap.size/\w.cell? ⟨jd A,ou A+(i*k+j),none⟩=some v) (λi hil=>by
  obtain⟨cs',h1,h2,h3⟩:=hi i hil;obtain⟨x,rfl⟩:=hel cs' h1 h2;exact⟨x,h3⟩)
 refine⟨_,(List.range len).map X,rfl,A,c,by simp,by simpa using kD,λhn=>?_⟩
 have yu:∀j v,(((List.range len).map X).flatMap enc)[j]?=some v->okA A/\jd A<w.heap.size/\w.cell? ⟨jd A,ou A+j,none⟩=some v:=λj v hj=>by
  have hjl:j<len*k:=by
   have:=(eF.1 hj).1
   rw[kL enc k hk]at this
   simpa using this
  have hq:j / k<len:=(Bd h0).2 hjl;have e1:j / k*k+j%k=j:=by rw[Nat.mul_comm];exact Nat.div_add_mod j k
  have e2:=KZ enc k hk ((List.range len).map X) (j / k) (j%k) (X (j / k)) (by rw[iZ,nD hq];rfl) (Nat.mod_lt _ h0)
  rw[e1,hj]at e2
  have:=hX (j / k) hq (j%k) v e2.symm;rwa [e1]at this
 have hlp:0<(((List.range len).map X).flatMap enc).length:=CG.2 hn;obtain⟨h1,h2,_⟩:=yu 0 _ (bf hlp)
 exact⟨h1,h2,λj v hj=>(yu j v hj).2.2⟩
theorem Rd.cells{α:Type}[Inhabited α]{k:Nat}{t e:TypeId}{cs:List Value}{enc:Value->α->List Value}{Q:Value->α->Prop}(ht:P.underlying t=some (.slice e))(hC:P.cellsOf e=k)(hB:0<P.bytesOf e)(hk:∀v x,(enc v x).length=k)(h0:0<k)
  (hel:∀cs',cs'.length=k->Rd en P w aO sp hd e cs'->∃(v:Value) (x:α),cs'=enc v x/\Q v x) (h:Rd en P w aO sp hd t cs):
  ∃(A:Option Addr) (c:Nat) (l:List α) (vs:List Value),cs=[.slice A l.length c]/\l.length<=140737488355232/\vs.length=l.length/\At w w.heap.size A ((l.zip vs).flatMap λx=>enc x.2 x.1)/\
   ∀(i:Nat) (x:α),l[i]?=some x->∃u,vs[i]?=some u/\Q u x:=by
 obtain⟨A,len,c,rfl,kD,hi⟩:=h.slice ht hC hB;obtain⟨X,hX⟩:=choose_lt (α:=α×Value) (n:=len) (p:=λi x=>Q x.2 x.1/\∀j v,(enc x.2 x.1)[j]?=some v->okA A/\jd A<w.heap.size/\w.cell? ⟨jd A,ou A+(i*k+j),none⟩=some v) (λi hil=>by
  obtain⟨cs',h1,h2,h3⟩:=hi i hil;obtain⟨v,x,rfl,hq⟩:=hel cs' h1 h2;exact⟨(x,v),hq,h3⟩)
 refine⟨A,c,(List.range len).map (λi=>(X i).1),(List.range len).map (λi=>(X i).2),by simp,by simpa using kD,by simp,?_,λi x hix=>?_⟩
 ·have hz:((List.range len).map (λi=>(X i).1)).zip ((List.range len).map (λi=>(X i).2))=(List.range len).map X:=by
   rw[List.zip_map']
  rw[hz];intro hn;have yu:∀j v,(((List.range len).map X).flatMap λx=>enc x.2 x.1)[j]?=some v->okA A/\jd A<w.heap.size/\w.cell? ⟨jd A,ou A+j,none⟩=some v:=λj v hj=>by
   have hjl:j<len*k:=by
    have:=(eF.1 hj).1
    rw[kL (λx:α×Value=>enc x.2 x.1) k (λx=>hk _ _)]at this
    simpa using this
   have hq:j / k<len:=(Bd h0).2 hjl;have e1:j / k*k+j%k=j:=by rw[Nat.mul_comm];exact Nat.div_add_mod j k
   have e2:=KZ (λx:α×Value=>enc x.2 x.1) k (λx=>hk _ _) ((List.range len).map X) (j / k) (j%k) (X (j / k)) (by rw[iZ,nD hq];rfl) (Nat.mod_lt _ h0)
   rw[e1,hj]at e2
   have:=(hX (j / k) hq).2 (j%k) v e2.symm;rwa [e1]at this
  have hlp:0<(((List.range len).map X).flatMap λx=>enc x.2 x.1).length:=CG.2 hn
  obtain⟨h1,h2,_⟩:=yu 0 _ (bf hlp)
  exact⟨h1,h2,λj v hj=>(yu j v hj).2.2⟩
 ·rw[iZ]at hix
  obtain⟨i',hi',rfl⟩:=Aa.1 hix;have hil:i<len:=by
   have:=(eF.1 hi').1
   simpa using this
  rw[nD hil]at hi'
  obtain rfl:=dQ hi';exact⟨(X i).2,by rw[iZ,nD hil];rfl,(hX i hil).1⟩
end
end Wh
namespace Wh
open Go Go.RowKit Go.ChangeShapes Go.WideShapes Go.Deep Go.Proofs Tryz
instance:Inhabited Bin:=⟨⟨false,0,0,0⟩⟩
instance:Inhabited dZ:=⟨⟨0,0,0,0⟩⟩
def structFields(P:Program)(t:TypeId):Array Field:=match P.underlying t with
 |some (.struct fs)=>fs
 |_=>#[]
theorem EU{P:Program}{t:TypeId}(h:(match P.underlying t with|some (.struct _)=>true|_=>false)=true):P.underlying t=some (.struct (structFields P t)):=by
 unfold structFields;split at h
 ·rename_i h';rw[h']
 ·cases h
theorem JF:prog.underlying 3=some (.int .i64):=by kernel_rfl
theorem jmB:prog.underlying 4=some .bool:=by kernel_rfl
theorem jmA:prog.underlying 23=some (.slice 3):=by kernel_rfl
theorem jmz:prog.underlying 26=some (.slice 23):=by kernel_rfl
theorem jmC:prog.underlying 22=some (.slice 125):=by kernel_rfl
theorem jsm:prog.cellsOf 3=1:=by kernel_rfl
theorem jow:prog.cellsOf 23=1:=by kernel_rfl
theorem jsw:0<prog.bytesOf 3:=kQ (by kernel_rfl)
theorem joB:0<prog.bytesOf 23:=kQ (by kernel_rfl)
theorem jsx:0<prog.bytesOf 125:=kQ (by kernel_rfl)
theorem jeQ:prog.underlying 125=some (.struct (structFields prog 125)):=EU (by kernel_rfl)
theorem jeZ:oneCellFields prog (structFields prog 125)=true:=by kernel_rfl
theorem je1:(structFields prog 125).size=4:=by kernel_rfl
theorem jcH:prog.cellsOf 125=4:=by kernel_rfl
theorem jfq:(structFields prog 125).toList.map (·.type)=[4,3,3,3]:=by kernel_rfl
theorem jdh:prog.underlying 25=some (.struct (structFields prog 25)):=EU (by kernel_rfl)
theorem jhG:oneCellFields prog (structFields prog 25)=true:=by kernel_rfl
theorem jhI:(structFields prog 25).size=2:=by kernel_rfl
theorem jeC:prog.cellsOf 25=2:=by kernel_rfl
theorem jjq:(structFields prog 25).toList.map (·.type)=[22,23]:=by kernel_rfl
section
variable {H:Type} {en:TypeId×Value→H} {w:World} {aO:Nat} {sp:Nat→Bool} {hd:Bool}
theorem Rd.field{P:Program}{t:TypeId}{fs:Array Field}{cs:List Value}{ts:List TypeId}(hs:P.underlying t=some (.struct fs))(hone:oneCellFields P fs=true)(hC:P.cellsOf t=fs.size)(hf:fs.toList.map (·.type)=ts)
  (h:Rd en P w aO sp hd t cs) (j:Nat) (t':TypeId) (hj:ts[j]?=some t'):∃v,cs[j]?=some v/\Rd en P w aO sp hd t' [v]:=by
 subst hf;rw[iZ,Bq]at hj
 obtain⟨f,hf,rfl⟩:=Aa.1 hj;exact(h.fields hs hone hC).2 j f hf
abbrev Rt(en:TypeId×Value->H)(w:World)(aO:Nat)(sp:Nat->Bool)(hd:Bool)(t:TypeId)(cs:List Value):Prop:=Rd en prog w aO sp hd t cs
theorem Rt.ints{cs:List Value}(h:Rt en w aO sp hd 23 cs):∃v l,cs=[v]/\Sl jJ w w.heap.size v l:=
 Rd.sl jmA jsm jsw (λ_=>rfl) (by decide) (λcs' _ h=>h.int JF) h
theorem Rt.rows{cs:List Value}(h:Rt en w aO sp hd 26 cs):∃v l,cs=[v]/\FW jJ w w.heap.size v l:=by
 obtain⟨A,c,l,vs,rfl,h1,h2,h3,h4⟩:=Rd.cells (α:=List Int) (k:=1) (enc:=λv _=>[v]) (Q:=λv x=>Sl jJ w w.heap.size v x) jmz jow joB (λ_ _=>rfl) (by decide) (λcs' _ h=>by
  obtain⟨v,l,rfl,hs⟩:=Rt.ints h;exact⟨v,l,rfl,hs⟩) h
 refine⟨_,l,rfl,A,c,vs,rfl,h1,h2,?_,h4⟩
 have:((l.zip vs).flatMap λx=>[x.2])=vs:=by
  rw[<- List.map_eq_flatMap,List.map_snd_zip];omega
 rwa [this]at h3
theorem Rt.bin{cs:List Value}(hl:cs.length=4)(h:Rt en w aO sp hd 125 cs):∃b,cs=PG b:=by
 match cs,hl with
 |[v0,v1,v2,v3],_=>
  obtain⟨x0,e0,r0⟩:=h.field jeQ jeZ (jcH.trans je1.symm) jfq 0 _ rfl;obtain⟨x1,e1,r1⟩:=h.field jeQ jeZ (jcH.trans je1.symm) jfq 1 _ rfl;obtain⟨x2,e2,r2⟩:=h.field jeQ jeZ (jcH.trans je1.symm) jfq 2 _ rfl;obtain⟨x3,e3,r3⟩:=h.field jeQ jeZ (jcH.trans je1.symm) jfq 3 _ rfl;obtain rfl:=dQ e0;obtain rfl:=dQ e1;obtain rfl:=dQ e2;obtain rfl:=dQ e3;obtain⟨b0,q0⟩:=r0.bool jmB;obtain⟨b1,q1⟩:=r1.int JF;obtain⟨b2,q2⟩:=r2.int JF;obtain⟨b3,q3⟩:=r3.int JF;obtain rfl:=(fM q0).1;obtain rfl:=(fM q1).1;obtain rfl:=(fM q2).1;obtain rfl:=(fM q3).1;exact⟨⟨b0,b1,b2,b3⟩,rfl⟩
theorem Rt.bQ{cs:List Value}(h:Rt en w aO sp hd 22 cs):∃v l,cs=[v]/\Sl PG w w.heap.size v l:=
 Rd.sl jmC jcH jsx (λ_=>rfl) (by decide) (λ_ hl h=>Rt.bin hl h) h
theorem Rt.plan{cs:List Value}(hl:cs.length=2)(h:Rt en w aO sp hd 25 cs):∃v0 v1 p,cs=[v0,v1]/\mW w w.heap.size (.agg #[v0,v1]) p:=by
 match cs,hl with
 |[v0,v1],_=>
  obtain⟨x0,e0,r0⟩:=h.field jdh jhG (jeC.trans jhI.symm) jjq 0 _ rfl;obtain⟨x1,e1,r1⟩:=h.field jdh jhG (jeC.trans jhI.symm) jjq 1 _ rfl;obtain rfl:=dQ e0;obtain rfl:=dQ e1;obtain⟨_,l0,q0,hs0⟩:=Rt.bQ r0;obtain⟨_,l1,q1,hs1⟩:=Rt.ints r1;obtain rfl:=(fM q0).1;obtain rfl:=(fM q1).1;exact⟨_,_,⟨l0,l1⟩,rfl,_,_,rfl,hs0,hs1⟩
theorem rd_of{P:Program}{ts:List TypeId}{ds:List (DataW H)}{j:Nat}{t:TypeId}{v:Value}{d:DataW H}{ps:List MemPlace}(hsz:(DataW.weightsEach P ts ds).all (·<=reachBytes)=true)(ht:ts[j]?=some t)(hds:ds[j]?=some d)
  (h:DataW.Trod en P w aO sp hd t v d ps):Rd en P w aO sp hd t v.cells.toList:=by
 obtain⟨n,hn⟩:=h;exact⟨n,_,hn,λk hk=>by simpa using aX.1 hsz _ (Af ht hds k hk)⟩
theorem plan_of{b0:Nat}{r:Reach}{v:Value}(hv:Value.okWide prog w r b0 25 v)(h:Rt en w aO sp hd 25 v.cells.toList):∃p,mW w w.heap.size v p:=by
 obtain⟨cs,rfl,hsz⟩:=okWide_struct jdh hv;obtain⟨l⟩:=cs;obtain⟨v0,v1,p,e,hp⟩:=Rt.plan (by simpa[Value.cells]using hsz.trans jeC) h
 have e':l=[v0,v1]:=by simpa[Value.cells]using e
 subst e';exact⟨p,hp⟩
end
end Wh
namespace Wh
open Go Go.RowKit Go.ChangeShapes Go.WideShapes Go.Deep Go.Proofs Tryz
theorem jka:prog.underlying 28=some (.slice 46):=by kernel_rfl
theorem joC:0<prog.bytesOf 46:=kQ (by kernel_rfl)
theorem jmJ:prog.underlying 46=some (.struct (structFields prog 46)):=EU (by kernel_rfl)
theorem jmV:oneCellFields prog (structFields prog 46)=true:=by kernel_rfl
theorem jmY:(structFields prog 46).size=4:=by kernel_rfl
theorem jjH:prog.cellsOf 46=4:=by kernel_rfl
theorem jos:(structFields prog 46).toList.map (·.type)=[3,3,3,3]:=by kernel_rfl
section
variable {H:Type} {en:TypeId×Value→H} {w:World} {aO:Nat} {sp:Nat→Bool} {hd:Bool}
theorem Rt.Tf{t:TypeId}(s_t:prog.underlying t=some (.struct (structFields prog t)))(o_t:oneCellFields prog (structFields prog t)=true)(c_t:prog.cellsOf t=(structFields prog t).size)
  (f_t:(structFields prog t).toList.map (·.type)=[3,3,3,3]) {cs:List Value} (hl:cs.length=4) (h:Rt en w aO sp hd t cs):∃a b c d:Int,cs=[.int .i64 a,.int .i64 b,.int .i64 c,.int .i64 d]:=by
 match cs,hl with
 |[v0,v1,v2,v3],_=>
  obtain⟨x0,e0,r0⟩:=h.field s_t o_t c_t f_t 0 _ rfl;obtain⟨x1,e1,r1⟩:=h.field s_t o_t c_t f_t 1 _ rfl;obtain⟨x2,e2,r2⟩:=h.field s_t o_t c_t f_t 2 _ rfl;obtain⟨x3,e3,r3⟩:=h.field s_t o_t c_t f_t 3 _ rfl;obtain rfl:=dQ e0;obtain rfl:=dQ e1;obtain rfl:=dQ e2;obtain rfl:=dQ e3;obtain⟨b0,q0⟩:=r0.int JF;obtain⟨b1,q1⟩:=r1.int JF;obtain⟨b2,q2⟩:=r2.int JF;obtain⟨b3,q3⟩:=r3.int JF;obtain rfl:=(fM q0).1;obtain rfl:=(fM q1).1;obtain rfl:=(fM q2).1;obtain rfl:=(fM q3).1;exact⟨b0,b1,b2,b3,rfl⟩
theorem Rt.hold{cs:List Value}(hl:cs.length=4)(h:Rt en w aO sp hd 46 cs):∃x,cs=ig x:=by
 obtain⟨a,b,c,d,rfl⟩:=Rt.Tf jmJ jmV (jjH.trans jmY.symm) jos hl h;exact⟨⟨a,b,c,d⟩,rfl⟩
theorem Rt.aA{cs:List Value}(h:Rt en w aO sp hd 28 cs):∃v l,cs=[v]/\Sl ig w w.heap.size v l:=
 Rd.sl jka jjH joC (λ_=>rfl) (by decide) (λ_ hl h=>Rt.hold hl h) h
end
end Wh
namespace Wh
open Go Go.RowKit Go.ChangeShapes Go.WideShapes Go.Deep Go.Proofs Tryz
instance:Inhabited Line:=⟨Lc⟩
instance:Inhabited Move:=⟨Ox⟩
instance:Inhabited Order:=⟨Gw⟩
theorem jj9:prog.underlying 32=some (.slice 44):=by kernel_rfl
theorem jeL:prog.underlying 29=some (.slice 48):=by kernel_rfl
theorem jgS:prog.underlying 27=some (.slice 42):=by kernel_rfl
theorem joA:0<prog.bytesOf 44:=kQ (by kernel_rfl)
theorem jmI:prog.underlying 44=some (.struct (structFields prog 44)):=EU (by kernel_rfl)
theorem jmU:oneCellFields prog (structFields prog 44)=true:=by kernel_rfl
theorem jmX:(structFields prog 44).size=4:=by kernel_rfl
theorem jjG:prog.cellsOf 44=4:=by kernel_rfl
theorem jor:(structFields prog 44).toList.map (·.type)=[3,3,3,3]:=by kernel_rfl
theorem joz:0<prog.bytesOf 48:=kQ (by kernel_rfl)
theorem jmH:prog.underlying 48=some (.struct (structFields prog 48)):=EU (by kernel_rfl)
theorem jmT:oneCellFields prog (structFields prog 48)=true:=by kernel_rfl
theorem jmW:(structFields prog 48).size=4:=by kernel_rfl
theorem jjF:prog.cellsOf 48=4:=by kernel_rfl
theorem joq:(structFields prog 48).toList.map (·.type)=[3,3,3,3]:=by kernel_rfl
theorem jlE:0<prog.bytesOf 42:=kQ (by kernel_rfl)
theorem jeP:prog.underlying 42=some (.struct (structFields prog 42)):=EU (by kernel_rfl)
theorem jeY:oneCellFields prog (structFields prog 42)=true:=by kernel_rfl
theorem je0:(structFields prog 42).size=2:=by kernel_rfl
theorem jaz:prog.cellsOf 42=2:=by kernel_rfl
theorem jfp:(structFields prog 42).toList.map (·.type)=[3,32]:=by kernel_rfl
theorem Ik:prog.underlying 31=some (.struct (structFields prog 31)):=EU (by kernel_rfl)
theorem JM:oneCellFields prog (structFields prog 31)=true:=by kernel_rfl
theorem JR:(structFields prog 31).size=7:=by kernel_rfl
theorem Iy:prog.cellsOf 31=7:=by kernel_rfl
theorem J6:(structFields prog 31).toList.map (·.type)=[26,27,28,29,23,23,23]:=by kernel_rfl
section
variable {H:Type} {en:TypeId×Value→H} {w:World} {aO:Nat} {sp:Nat→Bool} {hd:Bool}
theorem Rt.aG{cs:List Value}(hl:cs.length=4)(h:Rt en w aO sp hd 44 cs):∃x,cs=kP x:=by
 obtain⟨a,b,c,d,rfl⟩:=Rt.Tf jmI jmU (jjG.trans jmX.symm) jor hl h;exact⟨⟨a,b,c,d⟩,rfl⟩
theorem Rt.move{cs:List Value}(hl:cs.length=4)(h:Rt en w aO sp hd 48 cs):∃x,cs=nP x:=by
 obtain⟨a,b,c,d,rfl⟩:=Rt.Tf jmH jmT (jjF.trans jmW.symm) joq hl h;exact⟨⟨a,b,c,d⟩,rfl⟩
theorem Rt.aH{cs:List Value}(h:Rt en w aO sp hd 32 cs):∃v l,cs=[v]/\Sl kP w w.heap.size v l:=
 Rd.sl jj9 jjG joA (λ_=>rfl) (by decide) (λ_ hl h=>Rt.aG hl h) h
theorem Rt.aF{cs:List Value}(h:Rt en w aO sp hd 29 cs):∃v l,cs=[v]/\Sl nP w w.heap.size v l:=
 Rd.sl jeL jjF joz (λ_=>rfl) (by decide) (λ_ hl h=>Rt.move hl h) h
theorem Rt.aC{cs:List Value}(hl:cs.length=2)(h:Rt en w aO sp hd 42 cs):∃(v:Value) (x:Order),cs=[.int .i64 x.dW,v]/\Sl kP w w.heap.size v x.aH:=by
 match cs,hl with
 |[v0,v1],_=>
  obtain⟨x0,e0,r0⟩:=h.field jeP jeY (jaz.trans je0.symm) jfp 0 _ rfl;obtain⟨x1,e1,r1⟩:=h.field jeP jeY (jaz.trans je0.symm) jfp 1 _ rfl;obtain rfl:=dQ e0;obtain rfl:=dQ e1;obtain⟨b0,q0⟩:=r0.int JF;obtain⟨_,l1,q1,hs1⟩:=Rt.aH r1;obtain rfl:=(fM q0).1;obtain rfl:=(fM q1).1;exact⟨_,⟨b0,l1⟩,rfl,hs1⟩
theorem Rt.ak{cs:List Value}(h:Rt en w aO sp hd 27 cs):∃v l,cs=[v]/\nJ w w.heap.size v l:=by
 obtain⟨A,c,l,vs,rfl,h1,h2,h3,h4⟩:=Rd.cells (α:=Order) (k:=2) (enc:=λv x=>[.int .i64 x.dW,v]) (Q:=λv x=>Sl kP w w.heap.size v x.aH) jgS jaz jlE (λ_ _=>rfl) (by decide) (λcs' hl h=>Rt.aC hl h) h
 exact⟨_,l,rfl,A,c,vs,rfl,h1,h2,h3,h4⟩
theorem Rt.state{cs:List Value}(hl:cs.length=7)(h:Rt en w aO sp hd 31 cs):∃s,lK w w.heap.size (.agg cs.toArray) s:=by
 match cs,hl with
 |[v0,v1,v2,v3,v4,v5,v6],_=>
  obtain⟨x0,e0,r0⟩:=h.field Ik JM (Iy.trans JR.symm) J6 0 _ rfl;obtain⟨x1,e1,r1⟩:=h.field Ik JM (Iy.trans JR.symm) J6 1 _ rfl;obtain⟨x2,e2,r2⟩:=h.field Ik JM (Iy.trans JR.symm) J6 2 _ rfl;obtain⟨x3,e3,r3⟩:=h.field Ik JM (Iy.trans JR.symm) J6 3 _ rfl;obtain⟨x4,e4,r4⟩:=h.field Ik JM (Iy.trans JR.symm) J6 4 _ rfl;obtain⟨x5,e5,r5⟩:=h.field Ik JM (Iy.trans JR.symm) J6 5 _ rfl;obtain⟨x6,e6,r6⟩:=h.field Ik JM (Iy.trans JR.symm) J6 6 _ rfl;obtain rfl:=dQ e0;obtain rfl:=dQ e1;obtain rfl:=dQ e2;obtain rfl:=dQ e3;obtain rfl:=dQ e4;obtain rfl:=dQ e5;obtain rfl:=dQ e6;obtain⟨_,l0,q0,hs0⟩:=Rt.rows r0;obtain⟨_,l1,q1,hs1⟩:=Rt.ak r1;obtain⟨_,l2,q2,hs2⟩:=Rt.aA r2;obtain⟨_,l3,q3,hs3⟩:=Rt.aF r3;obtain⟨_,l4,q4,hs4⟩:=Rt.ints r4;obtain⟨_,l5,q5,hs5⟩:=Rt.ints r5;obtain⟨_,l6,q6,hs6⟩:=Rt.ints r6;obtain rfl:=(fM q0).1;obtain rfl:=(fM q1).1;obtain rfl:=(fM q2).1;obtain rfl:=(fM q3).1;obtain rfl:=(fM q4).1;obtain rfl:=(fM q5).1;obtain rfl:=(fM q6).1;exact⟨⟨l0,l1,l2,l3,l4,l5,l6⟩,_,_,_,_,_,_,_,rfl,hs0,hs1,hs2,hs3,hs4,hs5,hs6⟩
end
end Wh
namespace Wh
open Go Go.RowKit Go.ChangeShapes Go.WideShapes Go.Deep Go.Proofs Tryz
section
variable {H:Type} {en:TypeId×Value→H} {w:World} {aO:Nat} {sp:Nat→Bool} {hd:Bool}
theorem Rd.cap{P:Program}{t e:TypeId}{cs:List Value}(ht:P.underlying t=some (.slice e))(h:Rd en P w aO sp hd t cs):∃(A:Option Addr) (len c:Nat),cs=[.slice A len c]/\len<=c:=by
 obtain⟨n,x,h,hw⟩:=h;rcases open_slice ht h with⟨rfl,_⟩|⟨a,len,cap,m,n',D,Pl,rfl,_,hl,_⟩
 ·exact⟨none,0,0,rfl,au _⟩
 ·exact⟨some a,len,cap,rfl,hl⟩
theorem Rt.jhJ{cs:List Value}(hl:cs.length=7)(h:Rt en w aO sp hd 31 cs):Si (.agg cs.toArray):=by
 match cs,hl with
 |[v0,v1,v2,v3,v4,v5,v6],_=>
  obtain⟨x3,e3,r3⟩:=h.field Ik JM (Iy.trans JR.symm) J6 3 _ rfl;obtain rfl:=dQ e3;obtain⟨A,n,c,q,hc⟩:=Rd.cap jeL r3;obtain rfl:=(fM q).1;exact⟨_,_,_,A,n,c,_,_,_,rfl,hc⟩
theorem state_cap_of{b0:Nat}{r:Reach}{v:Value}(hv:Value.okWide prog w r b0 31 v)(h:Rt en w aO sp hd 31 v.cells.toList):∃s,lK w w.heap.size v s/\Si v:=by
 obtain⟨cs,rfl,hsz⟩:=okWide_struct Ik hv;have hl:cs.toList.length=7:=by simpa[Value.cells]using hsz.trans Iy
 have h':Rt en w aO sp hd 31 cs.toList:=by simpa[Value.cells]using h
 obtain⟨s,hs⟩:=Rt.state hl h';exact⟨s,by simpa[Value.cells]using hs,by simpa using Rt.jhJ hl h'⟩
end
end Wh
namespace Wh
open Go Go.RowKit Go.ChangeShapes Go.WideShapes Go.Deep Go.Proofs Tryz
theorem Vl:prog.underlying 34=some (.struct (structFields prog 34)):=EU (by kernel_rfl)
theorem YF:oneCellFields prog (structFields prog 34)=true:=by kernel_rfl
theorem YI:(structFields prog 34).size=6:=by kernel_rfl
theorem Xn:prog.cellsOf 34=6:=by kernel_rfl
theorem Y5:(structFields prog 34).toList.map (·.type)=[3,3,3,3,3,32]:=by kernel_rfl
section
variable {H:Type} {en:TypeId×Value→H} {w:World} {aO:Nat} {sp:Nat→Bool} {hd:Bool}
theorem Rt.act{cs:List Value}(hl:cs.length=6)(h:Rt en w aO sp hd 34 cs):∃x,Ur w w.heap.size (.agg cs.toArray) x:=by
 match cs,hl with
 |[v0,v1,v2,v3,v4,v5],_=>
  obtain⟨x0,e0,r0⟩:=h.field Vl YF (Xn.trans YI.symm) Y5 0 _ rfl;obtain⟨x1,e1,r1⟩:=h.field Vl YF (Xn.trans YI.symm) Y5 1 _ rfl;obtain⟨x2,e2,r2⟩:=h.field Vl YF (Xn.trans YI.symm) Y5 2 _ rfl;obtain⟨x3,e3,r3⟩:=h.field Vl YF (Xn.trans YI.symm) Y5 3 _ rfl;obtain⟨x4,e4,r4⟩:=h.field Vl YF (Xn.trans YI.symm) Y5 4 _ rfl;obtain⟨x5,e5,r5⟩:=h.field Vl YF (Xn.trans YI.symm) Y5 5 _ rfl;obtain rfl:=dQ e0;obtain rfl:=dQ e1;obtain rfl:=dQ e2;obtain rfl:=dQ e3;obtain rfl:=dQ e4;obtain rfl:=dQ e5;obtain⟨b0,q0⟩:=r0.int JF;obtain⟨b1,q1⟩:=r1.int JF;obtain⟨b2,q2⟩:=r2.int JF;obtain⟨b3,q3⟩:=r3.int JF;obtain⟨b4,q4⟩:=r4.int JF;obtain⟨_,l5,q5,hs5⟩:=Rt.aH r5;obtain rfl:=(fM q0).1;obtain rfl:=(fM q1).1;obtain rfl:=(fM q2).1;obtain rfl:=(fM q3).1;obtain rfl:=(fM q4).1;obtain rfl:=(fM q5).1;exact⟨⟨b0,b1,b2,b3,b4,l5⟩,_,rfl,hs5⟩
theorem act_of{b0:Nat}{r:Reach}{v:Value}(hv:Value.okWide prog w r b0 34 v)(h:Rt en w aO sp hd 34 v.cells.toList):∃x,Ur w w.heap.size v x:=by
 obtain⟨cs,rfl,hsz⟩:=okWide_struct Vl hv;obtain⟨x,hx⟩:=Rt.act (by simpa[Value.cells]using hsz.trans Xn) h
 exact⟨x,by simpa[Value.cells]using hx⟩
end
end Wh
