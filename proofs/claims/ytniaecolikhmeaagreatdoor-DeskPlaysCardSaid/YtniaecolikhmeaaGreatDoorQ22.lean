/- Texts of the claim, joined. -/
import Derived.Sort.QuietThIn
import Derived.OwnWalkIn
import Derived.RangeFuncCalls
import Derived.Test.YtniaecolikhmeaaGreatDoorQ17
set_option maxHeartbeats 20000000
set_option maxRecDepth 100000
set_option linter.all false
namespace Wh
open Go Go.RowKit Go.Shelf Go.Proofs Tryz
section
section
variable {P:Program} {ops:Array Oper} {md:Region.Mode} {C:World→Prop} {l₀ n:Nat}
def La(ops:Array Oper):Bool:=ops.all λo=>match o.op with| .defer _=>false|_=>true
theorem WZ{ops:Array Oper}(h:La ops=true){i:Nat}{o:Oper}(hi:ops[i]?=some o)(c:Call):o.op≠.defer c:=λe=>by
 unfold La at h
 rw[Array.all_eq_true]at h
 obtain⟨hl,rfl⟩:=bI.1 hi
 have:=h i hl;rw[e]at this
 cases this
theorem VZ{o:Oper}{a:Act}{K:Act->Prop}{K':Act->World->Prop}{Q':Exit->Act->World->Prop}{w:World}(hnd:∀c,o.op≠.defer c)(hw:C w)(h:∀a w',C w'->K a->K' a w')
  (hh:o.quiet P a C K):o.wpIn (Fence.wide.inRound l₀) n P a w K' Q':=by
 obtain⟨v,h1,h2⟩:=hh;have h3:=h1 w hw;unfold Oper.quietAt at h3
 unfold Oper.wpIn;refine⟨λ_ _=>trivial,?_⟩
 rw[Oper.semAt_plain _ _ _ hnd];generalize (execOp a.eval o).run P w=r at*
 cases r with
 |ok x w'=>
  cases x<;>simp only[Oper.quietUpon]at h3<;>simp only[Oper.uponIn]
  case value u=>
   obtain⟨e1,e2⟩:=h3;rw[e1,e2];exact h _ _ hw h2
  case skip=>
   obtain⟨e1,e2⟩:=h3;rw[e1,<- e2];exact h _ _ hw h2
  case enter f args=>
   obtain⟨e1,hc⟩:=h3;rw[e1];exact⟨λhd=>(by cases hd),CallsIn.inRound l₀ (iy.2 (hc.mono λe w'' hh=>by
    obtain⟨he,hw''⟩:=hh;subst he;exact h _ _ hw'' h2))⟩
 |halt x w'=>simp only[Oper.quietUpon]at h3
theorem VY{i:Nat}{a:Act}{K:Act->Prop}{K':Act->World->Prop}{Q':Exit->Act->World->Prop}{w:World}(hnd:La ops=true)(hC:C w)(h:∀a w',C w'->K a->K' a w')
  (hh:qOp P ops C i K a):wpOpIn (Fence.wide.inRound l₀) n P ops Q' i K' a w:=by
 unfold qOp at hh
 unfold wpOpIn;split
 ·rename_i ho;simp only[ho]at hh;exact h _ _ hC hh
 ·rename_i o ho
  simp only[ho]at hh
  split
  ·rename_i hw;simp only[hw,wW]at hh;exact VZ (WZ hnd ho) hC h hh
  ·rename_i hw;simp only[hw]at hh;exact⟨λ_ _=>trivial,h _ _ hC hh⟩
theorem KO{Q:Act->Prop}{Q':Exit->Act->World->Prop}(hnd:La ops=true)(hQ:∀a w,C w->Q a->Q' .normal a w):∀(fuel:Nat) (gU:Array Bool) (a:Act) (w:World),C w->
  wpAnyQ P md ops C Q fuel gU a->wpAnyIn (Fence.wide.inRound l₀) n P md ops Q' fuel gU a w
 |0,_,_,_,hw,h=>⟨h.1,hQ _ _ hw h.2⟩
 |fuel+1,_,_,_,hw,h=>⟨λh0=>hQ _ _ hw (h.1 h0),λi hi=>VY hnd hw (λa' w' hw'=>KO hnd hQ fuel _ a' w' hw') (h.2 i hi)⟩
theorem QS{id:Nat}{Q:Exit->Act->World->Prop}{a:Act}{w:World}(hnd:La ops=true)(hm:P.follows .mixedOrders=true)(hB:Region.lexB .any ops=true)(hC:C {w with drawn:=w.drawn+1})
  (h:wpQuiet P ops C (λa'=>∀w',C w'->Q .normal a' w') ops.toList a):(Code.region id ops true).wpIn (Fence.wide.inRound l₀) n P Q a w:=by
 simp only[Region.lexB,dF]at hB
 refine wpIn_region_any hm (KO (Q:=λa'=>∀w',C w'->Q .normal a' w') hnd (λ_ w' hw' h=>h w' hw') _ _ _ _ hC ?_)
 have:=wpAnyQ_lex (C:=C) (md:=.any) hB.1 ops.toList 0 (Array.replicate ops.size false) a (by simp) (by simpa using hB.2) h
 simpa using this
theorem uZ{id:Nat}{Q:Exit->Act->World->Prop}{a:Act}{w:World}{l:List Oper}(hnd:La l.toArray=true)(hm:P.follows .mixedOrders=true)(hB:Region.lexB .any l.toArray=true)
  (h:wpQuiet P l.toArray (λw'=>∃p:GB,w'=wld w p.d p.os) (λa'=>∀w',(∃p:GB,w'=wld w p.d p.os)->Q .normal a' w') l a):(Code.region id l.toArray true).wpIn (Fence.wide.inRound l₀) n P Q a w:=
 QS (C:=λw'=>∃p:GB,w'=wld w p.d p.os) hnd hm hB ⟨⟨w.drawn+1,#[]⟩,by simp[wld]⟩ (by simpa using h)
end
theorem Yx{ops:Array Oper}{rest:List Oper}{o:Oper}{a:Act}{w:World}{Q:Exit->Act->World->Prop}{aT b l₀ n0:Nat}{t:TypeId}{cs:List Value}{V:SV}
  (hgd:o.guard=none) (x y:Operand) (ho:o.op=.store 38 x y) (hn:o.dst=none) (A:Option Addr) (n c:Nat) {V':SV} {s':aI} (hk:iJ w b t (V.cells++cs)) (hO:dX w aT V' s') (hT:jdV t) (hV:V'.cells++cs=(V.cells++cs).set 3 (.slice A n c))
  (hx:a.eval x=.pointer (some ⟨b,3,none⟩)) (hy:a.eval y=.slice A n c) (h:∀w',Bx w' aT b t cs V' s'->Step (·=b) w w'->wpListIn (Fence.wide.inRound l₀) n0 prog ops Q rest a w'):wpListIn (Fence.wide.inRound l₀) n0 prog ops Q (o::rest) a w:=
 wpListIn_plain hgd λK hK=>by
  obtain⟨h1,h2⟩:=Bx.set' hk hO hT 3 (.slice A n c) hV;have h3:=h _ h1 (.nG h2 λk hk=>by injection hk with hk;exact hk.symm)
  have hc:w.cell? ⟨b,3,none⟩=some V.aF:=hk.cell rfl;have hf:=hk.frozen 3;clear h hk hO h1 h2 hV;unfold Oper.wpIn;refine⟨λ_ _=>trivial,?_⟩
  rw[Oper.semAt_plain _ _ _ (λc=>by rw[ho];intro e;cases e)]
  simp only[execOp,ho,hx,hy];go_simp
  rw[hn]at*
  exact hK _ _ h3
end
end Wh
namespace Wh
open Go Go.RowKit
section
section
variable {P:Program} {ops:Array Oper} {md:Region.Mode} {l₀ n:Nat} {Q:Exit→Act→World→Prop}
theorem jev{o:Oper}{a:Act}{w:World}{K:Act->World->Prop}(hnd:∀c,o.op≠.defer c)(h:o.wp P a w K Q):o.wpIn (Fence.wide.inRound l₀) n P a w K Q:=by
 unfold Oper.wp at h
 unfold Oper.wpIn;refine⟨λ_ _=>trivial,?_⟩
 rw[Oper.semAt_plain _ _ _ hnd];generalize (execOp a.eval o).run P w=r at*
 cases r with
 |ok x w'=>
  cases x<;>simp only[Oper.upon]at h<;>simp only[Oper.uponIn]
  case value u=>exact h
  case skip=>exact h
  case defer d=>exact h
  case enter f args=>exact⟨λhd=>(by cases hd),CallsIn.inRound l₀ (iy.2 (h.mono λe w'' hh=>by cases e<;>exact hh))⟩
  case row f args=>exact⟨λhd=>(by cases hd),λc cs _=>let ⟨v,w',r,s⟩:=h c cs;⟨v,w',r,stepsIn_wide.2 s⟩⟩
 |halt x w'=>cases x<;>simp only[Oper.upon]at h<;>simp only[Oper.uponIn]<;>exact h
theorem LD(hnd:La ops=true)(hQ:¬LetsOut Q):∀(fuel:Nat) (gU:Array Bool) (a:Act) (w:World),wpAny P md ops Q fuel gU a w->wpAnyIn (Fence.wide.inRound l₀) n P md ops Q fuel gU a w
 |0,_,_,_,h=>h
 |fuel+1,gU,a,w,h=>⟨h.1,λi hi=>by
  have h1:=h.2 i hi;unfold wpOp at h1
  unfold wpOpIn;split
  ·rename_i ho
   simp only[ho]at h1
   exact LD hnd hQ fuel _ _ _ h1
  ·rename_i o ho
   simp only[ho]at h1
   split
   ·rename_i hw
    simp only[hw,wW]at h1
    rcases h1 with h1|h1
    ·exact jev (WZ hnd ho) (xW (λa' w'=>LD hnd hQ fuel _ a' w') h1)
    ·exact absurd h1.2 hQ
   ·rename_i hw
    simp only[hw]at h1
    exact⟨λ_ _=>trivial,LD hnd hQ fuel _ _ _ h1⟩⟩
theorem Fq{id:Nat}{a:Act}{w:World}(hnd:La ops=true)(hQ:¬LetsOut Q)(hm:P.follows .mixedOrders=true)(h:wpAny P .any ops Q ops.size (Array.replicate ops.size false) a w.drew):(Code.region id ops true).wpIn (Fence.wide.inRound l₀) n P Q a w:=
 wpIn_region_any hm (LD hnd hQ _ _ _ _ h)
end
end
end Wh
