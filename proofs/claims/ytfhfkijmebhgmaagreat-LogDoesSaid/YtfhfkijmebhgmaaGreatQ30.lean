/- Texts of the claim, joined. -/
import Derived.RangeFuncCalls
import Derived.OrdersIn
import Derived.Maps.OwnOps
import Derived.Maps.OwnIn
import Derived.Maps.OwnSet
import Derived.Maps.Views
import Derived.Test.YtfhfkijmebhgmaaGreatQ29
set_option maxHeartbeats 20000000
set_option maxRecDepth 100000
namespace Wh
open Go Go.RowKit Go.Shelf Go.Proofs Tryz
theorem TG (n:Nat) (h2:3≤n) {g:Operand} {q1 q2 s1 s2:Nat} {assign body:Code} {Q:Exit→Act→World→Prop} {a:Act} {w:World} (Bs:Nat) (A:Option Addr) (c:Nat) (xs:List Move) (hlen:xs.length≤1000000)
  (hg:a.eval g=.func (.func 158) #[] #[.pointer (some ⟨Bs,0,none⟩)])
  (I:Nat→World→Prop) (hI:OwnFrom w.heap.size I) (h0:I 0 w) (hR:∀ k V,I k V→Vs Bs A c xs k V) (hsz:∀ k V,I k V→w.heap.size≤V.heap.size)
  (hassign:∀ (l x:Nat) (W:World) (K:Act→World→Prop),K {tmps:=(((a.tmps.setIfInBounds q1 (.int .i64 (x:Nat))).setIfInBounds q2 (uK (aB xs x))).setIfInBounds s1 (.int .i64 (x:Nat))).setIfInBounds s2 (.pointer (some ⟨W.heap.size,0,none⟩)),defers:=[]} (W.alloc (.cells #[.int .i64 (aB xs x).good,.int .i64 (aB xs x).src,.int .i64 (aB xs x).dst,.int .i64 (aB xs x).n] 48))→
   assign.wpIn (Fence.wide.inRound l) (n - 1 - 1) prog (Exit.then K (fun _ _ _=>False)) {tmps:=(a.tmps.setIfInBounds q1 (.int .i64 (x:Nat))).setIfInBounds q2 (uK (aB xs x)),defers:=[]} W)
  (hbody:∀ (l k x X:Nat) (W:World),x+k+1=xs.length→I k W→dw W X 48 [.int .i64 (aB xs x).good,.int .i64 (aB xs x).src,.int .i64 (aB xs x).dst,.int .i64 (aB xs x).n]→w.heap.size≤X→
   body.wpIn (Fence.wide.inRound l) (n - 1 - 1) prog (Exit.then (fun _ W'=>KeepsFrom w.heap.size W W'∧I (k+1) W') (fun _ _ _=>False)) {tmps:=(((a.tmps.setIfInBounds q1 (.int .i64 (x:Nat))).setIfInBounds q2 (uK (aB xs x))).setIfInBounds s1 (.int .i64 (x:Nat))).setIfInBounds s2 (.pointer (some ⟨X,0,none⟩)),defers:=[]} W)
  (hdone:∀ (D:Nat) (W:World),w.heap.size≤D→I xs.length W→W.heap[D]?=some (.deferred (some []))→Q .normal {a with defers:={target:=.collected D,args:=#[]}::a.defers} W):
  (Code.rangeFunc g #[q1,q2] assign body).wpIn Fence.wide n prog Q a w:=by
 refine BI (F:=Fence.wide) rfl (by omega) (gf:=158) (lb:=#[.pointer (some ⟨Bs,0,none⟩)]) hg bP (enters_of func158 (by kernel_rfl) rfl)
  (encs:=fun x:Nat=>#[.int .i64 (x:Nat),uK (aB xs x)]) (fun _=>rfl) (fun pre W=>I pre.length W) (fun s A B row hs hg hr=>hI _ A B row hs hg hr) h0 (fun pre x=>x+pre.length+1=xs.length) (fun ys=>ys.length=xs.length)
  (fun l J W _ hJ _ hY hJ0=>Xi (n - 1) l Bs A c xs (by omega) hlen J W (fun pre V h=>hR _ _ (hJ pre V h)) hY hJ0)
  (fun x a' W=>∃ X,w.heap.size≤X∧dw W X 48 [.int .i64 (aB xs x).good,.int .i64 (aB xs x).src,.int .i64 (aB xs x).dst,.int .i64 (aB xs x).n]∧a'={tmps:=(((a.tmps.setIfInBounds q1 (.int .i64 (x:Nat))).setIfInBounds q2 (uK (aB xs x))).setIfInBounds s1 (.int .i64 (x:Nat))).setIfInBounds s2 (.pointer (some ⟨X,0,none⟩)),defers:=[]})
  (fun x a' _ X Y row hs hg' hr=>by
   obtain ⟨B,h1,h3,h4⟩:=hs;refine ⟨B,h1,h3.grown hg' fun e=>?_,h4⟩
   obtain ⟨o,ho,hn⟩:=(hr _ e.symm).2;have h3':X.heap[B]?=_:=h3;rw [h3'] at ho
   injection ho with ho
   subst ho;cases hn)
  (fun l pre x W K hi hK=>?_) (fun l pre x a' W _ hi hx hax=>?_) (fun D ys W hD hS hi hd=>?_)
 ·have hz:Array.foldl (fun t (x:Nat×Value)=>match x with|(p,v)=>t.setIfInBounds p v) a.tmps (#[q1,q2].zip #[Value.int .i64 ((x:Nat):Int),uK (aB xs x)])=(a.tmps.setIfInBounds q1 (.int .i64 (x:Nat))).setIfInBounds q2 (uK (aB xs x)):=by simp
  rw [hz];refine hassign l x W K (hK _ _ (zq (D9 W _ none) (fun r e=>by cases e)) (hI.alloc _ hi) ⟨W.heap.size,hsz _ _ hi,dw.new _ _ _,rfl⟩)
 ·obtain ⟨X,hX,hb,rfl⟩:=hax;have:=hbody l pre.length x X W hx hi hb hX;have e:(pre++[x]).length=pre.length+1:=by simp
  rw [e];exact this
 ·rw [hS] at hi
  exact hdone D W hD hi hd
theorem TI (n:Nat) (h2:3≤n) {g:Operand} {q1 q2 s1 s2:Nat} {assign body:Code} {Q:Exit→Act→World→Prop} {a:Act} {w:World} (Bs:Nat) (A:Option Addr) (c:Nat) (xs:List Hold) (hlen:xs.length≤1000000)
  (hg:a.eval g=.func (.func 160) #[] #[.pointer (some ⟨Bs,0,none⟩)])
  (I:Nat→World→Prop) (hI:OwnFrom w.heap.size I) (h0:I 0 w) (hR:∀ k V,I k V→Vt Bs A c xs k V) (hsz:∀ k V,I k V→w.heap.size≤V.heap.size)
  (hassign:∀ (l x:Nat) (W:World) (K:Act→World→Prop),K {tmps:=(((a.tmps.setIfInBounds q1 (.int .i64 (x:Nat))).setIfInBounds q2 (kG (hold xs x))).setIfInBounds s1 (.int .i64 (x:Nat))).setIfInBounds s2 (.pointer (some ⟨W.heap.size,0,none⟩)),defers:=[]} (W.alloc (.cells #[.int .i64 (hold xs x).order,.int .i64 (hold xs x).line,.int .i64 (hold xs x).bin,.int .i64 (hold xs x).n] 46))→
   assign.wpIn (Fence.wide.inRound l) (n - 1 - 1) prog (Exit.then K (fun _ _ _=>False)) {tmps:=(a.tmps.setIfInBounds q1 (.int .i64 (x:Nat))).setIfInBounds q2 (kG (hold xs x)),defers:=[]} W)
  (hbody:∀ (l k x X:Nat) (W:World),x+k+1=xs.length→I k W→dw W X 46 [.int .i64 (hold xs x).order,.int .i64 (hold xs x).line,.int .i64 (hold xs x).bin,.int .i64 (hold xs x).n]→w.heap.size≤X→
   body.wpIn (Fence.wide.inRound l) (n - 1 - 1) prog (Exit.then (fun _ W'=>KeepsFrom w.heap.size W W'∧I (k+1) W') (fun _ _ _=>False)) {tmps:=(((a.tmps.setIfInBounds q1 (.int .i64 (x:Nat))).setIfInBounds q2 (kG (hold xs x))).setIfInBounds s1 (.int .i64 (x:Nat))).setIfInBounds s2 (.pointer (some ⟨X,0,none⟩)),defers:=[]} W)
  (hdone:∀ (D:Nat) (W:World),w.heap.size≤D→I xs.length W→W.heap[D]?=some (.deferred (some []))→Q .normal {a with defers:={target:=.collected D,args:=#[]}::a.defers} W):
  (Code.rangeFunc g #[q1,q2] assign body).wpIn Fence.wide n prog Q a w:=by
 refine BI (F:=Fence.wide) rfl (by omega) (gf:=160) (lb:=#[.pointer (some ⟨Bs,0,none⟩)]) hg bP (enters_of func160 (by kernel_rfl) rfl)
  (encs:=fun x:Nat=>#[.int .i64 (x:Nat),kG (hold xs x)]) (fun _=>rfl) (fun pre W=>I pre.length W) (fun s A B row hs hg hr=>hI _ A B row hs hg hr) h0 (fun pre x=>x+pre.length+1=xs.length) (fun ys=>ys.length=xs.length)
  (fun l J W _ hJ _ hY hJ0=>Xj (n - 1) l Bs A c xs (by omega) hlen J W (fun pre V h=>hR _ _ (hJ pre V h)) hY hJ0)
  (fun x a' W=>∃ X,w.heap.size≤X∧dw W X 46 [.int .i64 (hold xs x).order,.int .i64 (hold xs x).line,.int .i64 (hold xs x).bin,.int .i64 (hold xs x).n]∧a'={tmps:=(((a.tmps.setIfInBounds q1 (.int .i64 (x:Nat))).setIfInBounds q2 (kG (hold xs x))).setIfInBounds s1 (.int .i64 (x:Nat))).setIfInBounds s2 (.pointer (some ⟨X,0,none⟩)),defers:=[]})
  (fun x a' _ X Y row hs hg' hr=>by
   obtain ⟨B,h1,h3,h4⟩:=hs;refine ⟨B,h1,h3.grown hg' fun e=>?_,h4⟩
   obtain ⟨o,ho,hn⟩:=(hr _ e.symm).2;have h3':X.heap[B]?=_:=h3;rw [h3'] at ho
   injection ho with ho
   subst ho;cases hn)
  (fun l pre x W K hi hK=>?_) (fun l pre x a' W _ hi hx hax=>?_) (fun D ys W hD hS hi hd=>?_)
 ·have hz:Array.foldl (fun t (x:Nat×Value)=>match x with|(p,v)=>t.setIfInBounds p v) a.tmps (#[q1,q2].zip #[Value.int .i64 ((x:Nat):Int),kG (hold xs x)])=(a.tmps.setIfInBounds q1 (.int .i64 (x:Nat))).setIfInBounds q2 (kG (hold xs x)):=by simp
  rw [hz];refine hassign l x W K (hK _ _ (zq (D9 W _ none) (fun r e=>by cases e)) (hI.alloc _ hi) ⟨W.heap.size,hsz _ _ hi,dw.new _ _ _,rfl⟩)
 ·obtain ⟨X,hX,hb,rfl⟩:=hax;have:=hbody l pre.length x X W hx hi hb hX;have e:(pre++[x]).length=pre.length+1:=by simp
  rw [e];exact this
 ·rw [hS] at hi
  exact hdone D W hD hi hd
end Wh
namespace Wh
open Go Go.RowKit
section
variable {P:Program} {ops:Array Oper} {md:Region.Mode} {l₀ n:Nat} {Q:Exit→Act→World→Prop}
theorem ja0 {o:Oper} {a:Act} {w:World} {K:Act→World→Prop} (hnd:∀ c,o.op≠.defer c) (h:o.wp P a w K Q):o.wpIn (Fence.wide.inRound l₀) n P a w K Q:=by
 unfold Oper.wp at h
 unfold Oper.wpIn;refine ⟨fun _ _=>bP,?_⟩
 rw [Oper.semAt_plain _ _ _ hnd];generalize (execOp a.eval o).run P w=r at*
 cases r with
 |ok x w'=>
  cases x<;>simp only [Oper.upon] at h<;>simp only [Oper.uponIn]
  case value u=>exact h
  case skip=>exact h
  case defer d=>exact h
  case enter f args=>exact ⟨fun hd=>(by cases hd),CallsIn.inRound l₀ (kD.2 (h.mono fun e w'' hh=>by cases e<;>exact hh))⟩
  case row f args=>exact ⟨fun hd=>(by cases hd),fun c cs _=>let ⟨v,w',r,s⟩:=h c cs;⟨v,w',r,stepsIn_wide.2 s⟩⟩
 |halt x w'=>cases x<;>simp only [Oper.upon] at h<;>simp only [Oper.uponIn]<;>exact h
theorem DJ (hnd:Dl ops=true) (hQ:¬ LetsOut Q):∀ (fuel:Nat) (listed:Array Bool) (a:Act) (w:World),wpAny P md ops Q fuel listed a w→wpAnyIn (Fence.wide.inRound l₀) n P md ops Q fuel listed a w
 |0,_,_,_,h=>h
 |fuel+1,listed,a,w,h=>⟨h.1,fun i hi=>by
  have h1:=h.2 i hi;unfold wpOp at h1
  unfold wpOpIn;split
  ·rename_i ho
   simp only [ho] at h1
   exact DJ hnd hQ fuel _ _ _ h1
  ·rename_i o ho
   simp only [ho] at h1
   split
   ·rename_i hw
    simp only [hw,wJ] at h1
    rcases h1 with h1|h1
    ·exact ja0 (QF hnd ho) (AX (fun a' w'=>DJ hnd hQ fuel _ a' w') h1)
    ·exact absurd h1.2 hQ
   ·rename_i hw
    simp only [hw] at h1
    exact ⟨fun _ _=>bP,DJ hnd hQ fuel _ _ _ h1⟩⟩
theorem BH {id:Nat} {a:Act} {w:World} (hnd:Dl ops=true) (hQ:¬ LetsOut Q) (hm:P.follows .mixedOrders=true) (h:wpAny P .any ops Q ops.size (Array.replicate ops.size false) a w.drew):(Code.region id ops true).wpIn (Fence.wide.inRound l₀) n P Q a w:=
 wpIn_region_any hm (DJ hnd hQ _ _ _ _ h)
end
end Wh
namespace Wh
open Go Go.RowKit Go.Shelf Go.Proofs Tryz
attribute [local go_sem] au dQ dI dX
attribute [local go_sem] Oper.semAt_some
structure OV (w:World) (base b:Nat) (rst:List Value) (V:SV) (s:State) (row:Option Nat) (L:List (Nat×Obj)) (W:World):Prop where
 bx:Bx W base b 95 rst V s
 held:iR L W
 st:Step (fun j=>j=b∨row=some j) w W
theorem OV.own {w:World} {base b:Nat} {rst:List Value} {V:SV} {s:State} {row:Option Nat} {L:List (Nat×Obj)} {B:Nat} (hL:∀ x∈L,x.1<B) (hB:w.heap.size≤B) {X Y:World} {rw_:Option Nat} (hs:OV w base b rst V s row L X)
  (hg:X.grownBy Y rw_) (hr:∀ r,rw_=some r→B≤r∧∃ o:Obj,X.heap[r]?=some o∧o.isCells=false):OV w base b rst V s row L Y:=
 ⟨hs.bx.lU hg fun r e=>(hr r e).2,iR.from_ hL () X Y rw_ hs.held hg hr,hs.st.trans' (Step.dG (ks:=fun k=>rw_=some k) hg fun k e=>e) fun k hk e=>by have:=(hr k e).1;omega⟩
theorem OV.below {w:World} {base b:Nat} {rst:List Value} {V:SV} {s:State} {row:Option Nat} {L:List (Nat×Obj)} {W W':World} (h:OV w base b rst V s row L W) (hb:Below W.heap.size W W'):OV w base b rst V s row L W':=
 ⟨h.bx.below hb,fun x hx=>(hb.block x.1 (h.held.lt x hx)).trans (h.held x hx),h.st.trans (.of_below hb)⟩
theorem jbc {B:Nat} {ks:Nat→Prop} {W W':World} (h:Step ks W W') (hc:∀ k,ks k→∃ cs t sp,W.heap[k]?=some (.cells cs t sp)):KeepsFrom B W W':=
 ⟨h.size,fun k o _ hk ho=>h.heap hk fun hh=>by
  obtain ⟨cs,t,sp,e⟩:=hc k hh;rw [e] at hk
  injection hk with hk
  subst hk;cases ho⟩
theorem Vm {W:World} {g:Nat} {t:TypeId} {cur:List Value} (h:dw W g t cur):∃ cs t sp,W.heap[g]?=some (.cells cs t sp):=⟨_,_,_,h⟩
theorem jiq {L:List (Nat×Obj)} {W:World} {g:Nat} {t:TypeId} {cur:List Value} (h:iR L W) (hb:dw W g t cur) (ht:∀ x∈L,∀ cs sp,x.2≠.cells cs t sp):∀ x∈L,x.1≠g:=fun x hx he=>by
 have h1:=h x hx;rw [he,show W.heap[g]?=_ from hb] at h1
 injection h1 with h1
 exact ht x hx _ _ h1.symm
theorem Step.cell {ks:Nat→Prop} {w w':World} (h:Step ks w w') {p:Addr} (hb:p.block<w.heap.size) (hn:¬ ks p.block):w'.cell? p=w.cell? p:=by
 unfold World.cell?;rw [h.block p.block hb hn]
theorem OV.step {w:World} {base b:Nat} {rst jml:List Value} {V V':SV} {s s':State} {row:Option Nat} {L:List (Nat×Obj)} {W W':World} (h:OV w base b rst V s row L W) (hx:Bx W' base b 95 jml V' s') (hs:Step (fun j=>j=b∨row=some j) W W') (hL:∀ x∈L,x.1≠b∧row≠some x.1):OV w base b jml V' s' row L W':=
 ⟨hx,fun x hx=>hs.heap (h.held x hx) fun hh=>hh.elim (hL x hx).1 (hL x hx).2,h.st.trans hs⟩
theorem jkl (W:World) (x:Move):Calls prog 117 (#[uK x]++#[]) W fun e W'=>e=.returned (.bool (x.n==0))∧Below W.heap.size W W':=by
 have hb0:Below W.heap.size W (W.alloc (.cells #[.int .i64 (x).good,.int .i64 (x).src,.int .i64 (x).dst,.int .i64 (x).n] 48)):=(aj _ _).alloc (aA _) _;change Calls prog 117 #[uK x] W _;unfold uK;go_enter func117,ntmps117
 go_wp2_with fail;go_ret
 exact ⟨rfl,hb0⟩
theorem jgW:Enters prog 117:=enters_of func117 (by kernel_rfl) rfl
theorem aO.jde {w w':World} {base:Nat} {V:SV} {s:State} (h:aO w base V s) (hs:Step (fun q=>V.moves.ownBlock=some q) w w') {v:Value} {l:List Move} (hv:Own gV 4 48 w' base v l):aO w' base {V with moves:=v} {s with moves:=l}:=
 ⟨h.on.step hs (jU (h.on.apart h.moves (by decide))),h.rlen,fun b hb=>(h.row b hb).step hs (jU ((h.row b hb).apart h.moves (by decide))),h.orders.step hs (jU (h.orders.apart h.moves (by decide))),h.llen,fun o ho=>(h.line o ho).step hs (jU ((h.line o ho).apart h.moves (by decide))),
  h.holds.step hs (jU (h.holds.apart h.moves (by decide))),hv,h.inn.step hs (jU (h.inn.apart h.moves (by decide))),h.out.step hs (jU (h.out.apart h.moves (by decide))),h.fixed.step hs (jU (h.fixed.apart h.moves (by decide))),h.apart,h.oQ⟩
theorem jiU (w:World) {base b:Nat} {V:SV} {s:State} {bn g:Nat} {v:Int} {m:Value} (hB:Bx w base b 95 (xu bn g v m) V s) (hb:base≤b) (hm8:s.moves.length≤8) (hN:∀ x∈s.moves,1≤x.n∧x.n≤200) (hv: -100000≤v∧v≤100000):
  Calls prog 63 #[.pointer (some ⟨b,0,none⟩)] w fun e w'=>e=.returned (.tuple #[])∧∃ V',V'={V with moves:=V'.moves}∧
   Bx w' base b 95 (xu bn g ((Ad bn g).mid s.moves v 0).2 m) V' {s with moves:=(Ad bn g).rest s.moves v}∧Step (fun j=>j=b∨V.moves.ownBlock=some j) w w':=by
 have hB':=Lib.hid hB;obtain ⟨k0,k1,k2,k3,k4,k5,k6,k7,k8⟩:=V;obtain ⟨Am,cm,hvm⟩:=hB.own.moves.isSlice;obtain rfl:k3=.slice Am s.moves.length cm:=hvm;obtain ⟨c0,c1,c2,c3,c4,c5,c6⟩:=hB.cells;simp only at c0 c1 c2 c3 c4 c5 c6
 have hbl:=hB.lt;clear hB;refine (kD (n:=9)).1 ?_
 refine callsIn_of_wp_marks func63 rfl bP ?_ rfl
 simp only [ntmps63,qN,gQ,je,Nat.reduceAdd,Nat.reduceSub,rW,rV,rM,rQ,lq,qg];refine D7.2 ?_
 go_wp2_with fail;refine ((kD (n:=8)).1 (jaa 8 _ _ _ _)).mono ?_
 rintro e W1 ⟨rfl,rfl⟩;go_wp2_with fail;clear c0 c1 c2 c3 c4 c5 c6;obtain ⟨L,hL⟩:∃ L:List (Nat×Obj),L=[(w.heap.size,Obj.cells #[.pointer (some ⟨b,0,none⟩)] 91 (0,0)),(w.heap.size+1,Obj.cells #[.slice Am s.moves.length cm] 29 (0,0))]:=⟨_,rfl⟩;have hba:Below w.heap.size w ((w.alloc (.cells #[.pointer (some ⟨b,0,none⟩)] 91)).alloc (.cells #[.slice Am s.moves.length cm] 29)):=((aj _ _).alloc (aA _) _).alloc (by simp) _
 have hH0:iR L ((w.alloc (.cells #[.pointer (some ⟨b,0,none⟩)] 91)).alloc (.cells #[.slice Am s.moves.length cm] 29)):=by
  intro x hx;rw [hL] at hx
  simp at hx
  rcases hx with rfl|rfl
  ·exact (heap_alloc_old (by simp)).trans (iq rfl)
  ·exact iq (by simp)
 have hs2:((w.alloc (.cells #[.pointer (some ⟨b,0,none⟩)] 91)).alloc (.cells #[.slice Am s.moves.length cm] 29)).heap.size=w.heap.size+1+1:=by simp
 have hI0:OV w base b (xu bn g v m) ⟨k0,k1,k2,.slice Am s.moves.length cm,k4,k5,k6,k7,k8⟩ s (Value.slice Am s.moves.length cm).ownBlock L ((w.alloc (.cells #[.pointer (some ⟨b,0,none⟩)] 91)).alloc (.cells #[.slice Am s.moves.length cm] 29)):=
  ⟨hB'.out.below hba,hH0,.of_below hba⟩
 generalize (w.alloc (.cells #[.pointer (some ⟨b,0,none⟩)] 91)).alloc (.cells #[.slice Am s.moves.length cm] 29)=w2 at hba hH0 hs2 hI0 ⊢
 have jdP:∀ x∈L,x.1<w2.heap.size:=hH0.lt;have hw2:w.heap.size≤w2.heap.size:=hba.size;have hpos:∀ x∈s.moves,0≤(Ad bn g).num x:=fun x hx=>by have:=(hN x hx).1;show 0≤x.n;omega
 refine (D7 (n:=9)).1 ?_
 refine TG (s1:=2) (s2:=3) 9 (by omega) (w.heap.size+1) Am cm s.moves (by omega) rfl
  (fun k W=>k≤s.moves.length∧OV w base b (xu bn g ((Ad bn g).mid s.moves v (s.moves.length - k)).2 m) ⟨k0,k1,k2,.slice Am s.moves.length cm,k4,k5,k6,k7,k8⟩ {s with moves:=((Ad bn g).mid s.moves v (s.moves.length - k)).1} (Value.slice Am s.moves.length cm).ownBlock L W)
  (fun k X Y row hs hg hr=>⟨hs.1,hs.2.own jdP hw2 hg hr⟩) ⟨aT _,by rw [Nat.sub_zero,bI.jcz];exact hI0⟩ ?hR ?hsz ?hassign ?hbody ?hdone
 case hR=>
  intro k V ⟨hk,hI⟩;refine ⟨Boxed.cell (show Boxed V (w.heap.size+1) 29 (.slice Am s.moves.length cm) from hI.held (w.heap.size+1,Obj.cells #[.slice Am s.moves.length cm] 29 (0,0)) (by rw [hL];simp)),fun i hi=>?_⟩
  have hlen:=bI.Jc (C:=Ad bn g) s.moves v (s.moves.length - k);obtain ⟨gm,c',cur,e1,_,_,q0,q1,q2,q3⟩:=hI.bx.own.aB (k:=i) (by show i<(bI.mid _ _ _ _).1.length;rw [hlen];omega)
  have he:aB ((Ad bn g).mid s.moves v (s.moves.length - k)).1 i=aB s.moves i:=by
   unfold aB;rw [jm,bI.Wi v (i:=i) (by omega) (by omega),jm,fF (by omega)]
  injection e1 with e1
  simp only [he] at q0 q1 q2 q3
  exact ⟨gm,e1,q0,q1,q2,q3⟩
 case hsz=>
  intro k V ⟨hk,hI⟩;have:=hI.held.lt (w.heap.size+1,Obj.cells #[.slice Am s.moves.length cm] 29 (0,0)) (by rw [hL];simp)
  simp only at this
  omega
 case hassign=>
  intro l x W K hK;simp only [iW,iy,iJ] at hK ⊢
  unfold uK at hK ⊢
  gi_wp2
  exact hK
 case hbody=>
  intro l k x X W hxk ⟨hk,hI⟩ hbX hX;simp only [iW,iy,iJ];unfold uK;have hxl:x<s.moves.length:=by omega
  have ek:s.moves.length - k=x+1:=by omega
  have ek1:s.moves.length - (k+1)=x:=by omega
  rw [ek] at hI
  rw [ek1];have hmx:aB s.moves x=s.moves[x]:=iM hxl;have hNx:=hN _ (eF hxl);have hov:=bI.QK hpos v (x+1);have hstep:=fun h=>bI.jfa (C:=Ad bn g) v hxl h
  have EG:=fun h=>bI.jcA (C:=Ad bn g) v hxl h
  have hat:=bI.Wi (C:=Ad bn g) v (i:=x) (j:=x+1) hxl (by omega)
  have hml:=bI.Jc (C:=Ad bn g) s.moves v (x+1);obtain ⟨M,ov,hmid⟩:∃ M ov,(Ad bn g).mid s.moves v (x+1)=(M,ov):=⟨_,_,rfl⟩;rw [hmid] at hI hov hstep EG hat hml
  simp only at hI hov hstep hat hml
  have hML:aB M x=s.moves[x]:=by
   unfold aB;rw [jm,hat]
   rfl
  have hI':=Lib.hid hI;have hLx:=Lib.hid (show ∀ x∈L,x.1≠b∧(Value.slice Am s.moves.length cm).ownBlock≠some x.1 from fun y hy=>by
   refine ⟨fun he=>?_,fun he=>?_⟩
   ·rw [hL] at hy
    simp at hy
    rcases hy with rfl|rfl<;>simp only at he<;>omega
   ·obtain ⟨cur,hc⟩:=hI.bx.own.moves.block he;exact jiq (g:=y.1) hI.held (show dw W y.1 48 cur.toList from by simpa [dw] using hc) (fun z hz cs sp e=>by
     rw [hL] at hz
     simp at hz
     rcases hz with rfl|rfl<;>injection e with _ e _<;>revert e<;>decide) y hy rfl)
  clear hI hmid hat;have x0:=hbX.cell (j:=0) rfl;have x1:=hbX.cell (j:=1) rfl;have y0:W.cell? ⟨w.heap.size,0,none⟩=some (.pointer (some ⟨b,0,none⟩)):=Boxed.cell (show Boxed W w.heap.size 91 (.pointer (some ⟨b,0,none⟩)) from hI'.out.held (w.heap.size,Obj.cells #[.pointer (some ⟨b,0,none⟩)] 91 (0,0)) (by rw [hL];simp))
  have z1:=hI'.out.bx.box.cell (j:=7) rfl;have z2:=hI'.out.bx.box.cell (j:=8) rfl;have l0:=hI'.out.held.lt (w.heap.size,Obj.cells #[.pointer (some ⟨b,0,none⟩)] 91 (0,0)) (by rw [hL];simp)
  simp only at l0
  have lb:b<W.heap.size:=hI'.out.bx.lt;have lX:=hbX.lt;have q1:=fun o d os=>aG (w:=W) (b:=X) lX o d os
  have q2:=fun o d os=>aG (w:=W) (b:=w.heap.size) l0 o d os
  have q3:=fun o d os=>aG (w:=W) (b:=b) lb o d os
  have jiC:=Lib.hid hbX;clear hbX;rw [hmx] at x0 x1 ⊢
  by_cases h1:s.moves[x].src=bn
  ·have t1:(s.moves[x].src==(bn:Int))=true:=by simpa using h1
   by_cases h2:s.moves[x].good=g
   ·have t2:(s.moves[x].good==(g:Int))=true:=by simpa using h2
    have hst:=Lib.hid (hstep (LY.2 ⟨h1,h2⟩));clear hstep EG h1 h2;gi_wp2_with fail
    refine kU (by kernel_rfl) (by kernel_rfl) (by kernel_rfl) ?_
    repeat (go_big_quiet_step (fail))
    refine wpQuiet_nil ?_
    intro W6 hw6;have hb6:=aI hw6;clear hw6;clear x0 x1 y0 z1 z2 q1 q2 q3 t1 t2;gi_wp2_with fail
    have Xr:=Lib.hid (hI'.out.below hb6);have jgx:=Lib.hid (jiC.out.below hb6 lX);obtain ⟨gm,c',cur,e1,hgb,hbm,p0,p1,p2,p3⟩:=Xr.out.bx.own.aB (k:=x) (show x<M.length by omega)
    injection e1 with e1 e2 e3
    clear e2 e3;simp only [hML] at p3
    subst e1;have hgw:gm<w.heap.size:=(hB'.out.own.moves.size gm rfl).2;have hgm:gm≠b:=dw.ne hbm Xr.out.bx.box (by decide)
    obtain ⟨n0,hn0⟩:∃ n0,s.moves[x].n=n0:=⟨_,rfl⟩;have hst':=hst.out;change (Ad bn g).mid s.moves v x=(M.set x {s.moves[x] with n:=s.moves[x].n - bI.less ov s.moves[x].n},ov - bI.less ov s.moves[x].n) at hst'
    rw [hn0] at p3 hNx hst'
    have hst2:=Lib.hid hst';have x3:=jgx.out.cell (j:=3) rfl;rw [hmx,hn0] at x3
    clear hst hst';obtain ⟨mm,hmm⟩:∃ mm,bI.less ov n0=mm:=⟨_,rfl⟩;have hmb:0≤mm∧mm≤n0:=by rw [← hmm];unfold bI.less;omega
    have hmm':=Lib.hid hmm;have l06:=aZ l0 hb6.size;have lb6:=aZ lb hb6.size;have lX6:=aZ lX hb6.size;have y0:W6.cell? ⟨w.heap.size,0,none⟩=some (.pointer (some ⟨b,0,none⟩)):=Boxed.cell (show Boxed W6 w.heap.size 91 (.pointer (some ⟨b,0,none⟩)) from Xr.out.held (w.heap.size,Obj.cells #[.pointer (some ⟨b,0,none⟩)] 91 (0,0)) (by rw [hL];simp))
    obtain ⟨Vx,hVx⟩:∃ Vx:SV,Vx=⟨k0,k1,k2,.slice (some ⟨gm,0,none⟩) s.moves.length cm,k4,k5,k6,k7,k8⟩:=⟨_,rfl⟩;obtain ⟨sM,hsM⟩:∃ sM:State,sM={s with moves:=M}:=⟨_,rfl⟩
    have jbB:=Lib.hid (show Bx W6 base b 95 (xu bn g ov m) Vx sM by rw [hVx,hsM];exact Xr.out.bx)
    have hc3:∀ (w':World) (o':Int),Bx w' base b 95 (xu bn g o' m) Vx sM→w'.cell? ⟨b,3,none⟩=some (.slice (some ⟨gm,0,none⟩) s.moves.length cm):=fun w' o' h=>by have:=h.cells.2.2.2.1;rw [hVx] at this;exact this
    have jqK:=Lib.hid hc3;have hxi:(x:Int)<(s.moves.length:Int):=by omega
    have hwn:IntKind.i64.wrap (n0 - mm)=n0 - mm:=bf _ (by omega)
    have joy:=Lib.hid hVx;have jp4:=Lib.hid hsM;clear hc3 hmm hVx hsM;refine BH (by kernel_rfl) (fun h=>by obtain ⟨_,_,h⟩:=h;exact h) (by kernel_rfl) (jac 16 (fun w'=>Step (·=b) W6 w'∧∃ o',Bx w' base b 95 (xu bn g o' m) Vx sM) (fun w'=>Bx w' base b 95 (xu bn g ov m) Vx sM)
     (fun w1 w2=>Step (·=b) w1 w2∧Bx w2 base b 95 (xu bn g (ov - mm) m) Vx sM) 12 [
     fun g' _=>g' 28=.pointer (some ⟨b,0,none⟩),fun g' _=>g' 29=.pointer (some ⟨b,0,none⟩),fun g' _=>g' 30=.pointer (some ⟨b,0,none⟩),fun g' _=>g' 31=.pointer (some ⟨b,3,none⟩),
     fun g' _=>g' 32=.slice (some ⟨gm,0,none⟩) s.moves.length cm,fun g' _=>g' 33=.int .i64 x,fun g' _=>g' 34=.pointer (some ⟨gm,x*4,none⟩),fun g' _=>g' 35=.pointer (some ⟨gm,x*4+3,none⟩),
     fun g' _=>g' 36=.int .i64 n0,fun g' _=>g' 37=.pointer (some ⟨b,0,none⟩),fun g' _=>g' 38=.pointer (some ⟨X,3,none⟩),fun g' _=>g' 39=.int .i64 n0,
     fun g' w'=>g' 40=.int .i64 mm∧Bx w' base b 95 (xu bn g (ov - mm) m) Vx sM,fun g' _=>g' 41=.int .i64 (n0 - mm),fun g' _=>g' 42=.pointer (some ⟨gm,x*4,none⟩),fun g' _=>g' 43=.pointer (some ⟨gm,x*4+3,none⟩)] (by kernel_rfl) rfl (by kernel_rfl)
     (fun w1 w2 h hb=>⟨h.1.trans (.of_below hb),h.2.elim fun o' h=>⟨o',h.below hb⟩⟩) (fun w1 w2 h h'=>⟨h.1.trans h'.1,_,h'.2⟩) (fun w1 w2 h hb=>h.below hb) ⟨.of_below (aj _ _).drew,_,jbB.out.drew⟩ jbB.out.drew ?jpb (fun f w9 hT hR=>?jpc))
    case jpb=>
     simp only [eY,eG];refine bZ.cons (fV.val rfl rfl (by decide) (fun gq w' hT ho hd=>?_)) ?_
     ·have e1:=ho 1 rfl;have e2:=(hT.1.cell (p:=⟨w.heap.size,0,none⟩) l06 (by show ¬ w.heap.size=b;omega)).trans y0
      go_simp
     refine bZ.cons (fV.val rfl rfl (by decide) (fun gq w' hT ho hd=>?_)) ?_
     ·have e1:gq 28=.pointer (some ⟨b,0,none⟩):=hd ⟨0,.data⟩ (by simp) rfl (by decide)
      go_simp
     refine bZ.cons (fV.val rfl rfl (by decide) (fun gq w' hT ho hd=>?_)) ?_
     ·have e1:gq 29=.pointer (some ⟨b,0,none⟩):=hd ⟨1,.data⟩ (by simp) rfl (by decide)
      go_simp
     refine bZ.cons (fV.val rfl rfl (by decide) (fun gq w' hT ho hd=>?_)) ?_
     ·have e1:gq 30=.pointer (some ⟨b,0,none⟩):=hd ⟨2,.data⟩ (by simp) rfl (by decide)
      go_simp
     refine bZ.cons (fV.val rfl rfl (by decide) (fun gq w' hT ho hd=>?_)) ?_
     ·have e1:gq 31=.pointer (some ⟨b,3,none⟩):=hd ⟨3,.data⟩ (by simp) rfl (by decide)
      obtain ⟨o',hx'⟩:=hT.2;have e2:=jqK.out w' o' hx';go_simp
     refine bZ.cons (fV.val rfl rfl (by decide) (fun gq w' hT ho hd=>?_)) ?_
     ·have e1:=ho 2 rfl;go_simp
     refine bZ.cons (fV.val rfl rfl (by decide) (fun gq w' hT ho hd=>?_)) ?_
     ·have e1:gq 32=.slice (some ⟨gm,0,none⟩) s.moves.length cm:=hd ⟨4,.data⟩ (by simp) rfl (by decide)
      have e2:gq 33=.int .i64 x:=hd ⟨5,.data⟩ (by simp) rfl (by decide)
      go_simp
     refine bZ.cons (fV.val rfl rfl (by decide) (fun gq w' hT ho hd=>?_)) ?_
     ·have e1:gq 34=.pointer (some ⟨gm,x*4,none⟩):=hd ⟨6,.data⟩ (by simp) rfl (by decide)
      go_simp
     refine bZ.cons (fV.val rfl rfl (by decide) (fun gq w' hT ho hd=>?_)) ?_
     ·have e1:gq 35=.pointer (some ⟨gm,x*4+3,none⟩):=hd ⟨7,.data⟩ (by simp) rfl (by decide)
      have e2:=(hT.1.cell (p:=⟨gm,x*4+3,none⟩) hbm.lt hgm).trans p3;go_simp
     refine bZ.cons (fV.val rfl rfl (by decide) (fun gq w' hT ho hd=>?_)) ?_
     ·have e1:=ho 1 rfl;have e2:=(hT.1.cell (p:=⟨w.heap.size,0,none⟩) l06 (by show ¬ w.heap.size=b;omega)).trans y0
      go_simp
     refine bZ.cons (fV.val rfl rfl (by decide) (fun gq w' hT ho hd=>?_)) ?_
     ·have e1:=ho 3 rfl;go_simp
     refine bZ.cons (fV.val rfl rfl (by decide) (fun gq w' hT ho hd=>?_)) ?_
     ·have e1:gq 38=.pointer (some ⟨X,3,none⟩):=hd ⟨10,.data⟩ (by simp) rfl (by decide)
      have e2:=(hT.1.cell (p:=⟨X,3,none⟩) lX6 (by show ¬ X=b;omega)).trans x3
      go_simp
     refine bZ.cons ⟨fun gq w1 w2 h hb=>⟨h.1,h.2.below hb⟩,fun hne=>absurd rfl hne,fun gq gq' w1 he h=>?_,fun gq w' hT hJ ho hd=>?_⟩ ?_
     ·have e61:=he 12 _ 40 (.self 12) rfl rfl;exact ⟨e61.symm.trans h.1,h.2⟩
     ·have e1:gq 37=.pointer (some ⟨b,0,none⟩):=hd ⟨9,.data⟩ (by simp) rfl (by decide)
      have e2:gq 39=.int .i64 n0:=hd ⟨11,.data⟩ (by simp) rfl (by decide)
      have hcall:=jg6 w' n0 (hJ rfl) (by omega) (by omega)
      rw [hmm'.out] at hcall
      unfold dO;go_simp
      refine hcall.mono ?_
      rintro e w'' ⟨rfl,hx2,hs2⟩;refine ⟨_,rfl,⟨?_,hx2⟩,hs2,hx2⟩
      simp [kH,upd]
     refine bZ.cons (fV.val rfl rfl (by decide) (fun gq w' hT ho hd=>?_)) ?_
     ·have e1:gq 36=.int .i64 n0:=hd ⟨8,.data⟩ (by simp) rfl (by decide)
      have e2:gq 40=.int .i64 mm:=(show gq 40=.int .i64 mm∧_ from hd ⟨12,.data⟩ (by simp) rfl (by decide)).1
      go_simp
     refine bZ.cons (fV.val rfl rfl (by decide) (fun gq w' hT ho hd=>?_)) ?_
     ·have e1:gq 32=.slice (some ⟨gm,0,none⟩) s.moves.length cm:=hd ⟨4,.data⟩ (by simp) rfl (by decide)
      have e2:gq 33=.int .i64 x:=hd ⟨5,.data⟩ (by simp) rfl (by decide)
      go_simp
     refine bZ.cons (fV.val rfl rfl (by decide) (fun gq w' hT ho hd=>?_)) ?_
     ·have e1:gq 42=.pointer (some ⟨gm,x*4,none⟩):=hd ⟨14,.data⟩ (by simp) rfl (by decide)
      go_simp
     exact bZ.nil
    case jpc=>
     obtain ⟨r28,r29,r30,r31,r32,r33,r34,r35,r36,r37,r38,r39,⟨r40,aX⟩,r41,r42,r43,_⟩:=hR;simp only [fU,qZ,eY,eG,lF,mG,mF,mD,jH,mg,iW,iy,iJ,r28,r29,r30,r31,r32,r33,r34,r35,r36,r37,r38,r39,r40,r41,r42,r43];clear r28 r29 r30 r31 r32 r33 r34 r35 r36 r37 r38 r39 r40 r41 r42 r43;have joj:=hT.1.blk hbm hgm;have p39:=(hT.1.cell (p:=⟨gm,x*4+3,none⟩) hbm.lt hgm).trans p3;refine lH rfl (.tmp 43) (.tmp 41) rfl rfl gm (x*4+3) _ (n0 - mm) rfl rfl p39 (joj.frozen _) (fun w10 jpW=>?_)
     refine gy ?_
     have ng:aO w9 base ⟨k0,k1,k2,.slice (some ⟨gm,0,none⟩) s.moves.length cm,k4,k5,k6,k7,k8⟩ {s with moves:=M}:=by
      have:=aX.own;rw [joy.out,jp4.out] at this
      exact this
     obtain ⟨o1,hg1⟩:=Own.store ng.moves (fun _=>rfl) (i:=x) (show x<M.length by omega) (show 3<4 by omega) (y:={s.moves[x] with n:=n0 - mm}) (u:=.int .i64 (n0 - mm)) (by
      have e:M[x]'(by omega)=s.moves[x]:=by rw [← hML,iM (by omega)]
      show gV _=(gV (M[x]'(by omega))).set 3 _
      rw [e];rfl)
     rw [jpW] at o1 hg1
     have jog:Bx w10 base b 95 (xu bn g (ov - mm) m) ⟨k0,k1,k2,.slice (some ⟨gm,0,none⟩) s.moves.length cm,k4,k5,k6,k7,k8⟩ {s with moves:=M.set x {s.moves[x] with n:=n0 - mm}}:=by
      have Ci:=aX.box;rw [joy.out] at Ci
      exact ⟨Ci.grown hg1 (by intro he;injection he with he;exact hgm he.symm),ng.BA hg1 o1,aX.ty⟩
     have nJ:Step (fun j=>j=b∨(Value.slice (some ⟨gm,0,none⟩) s.moves.length cm).ownBlock=some j) W6 w10:=
      (hT.1.mono fun j hj=>.inl hj).trans (Step.dG (ks:=fun j=>j=b∨(Value.slice (some ⟨gm,0,none⟩) s.moves.length cm).ownBlock=some j) hg1 fun j hj=>.inr (by rw [← hj];rfl))
     have hfin:KeepsFrom w2.heap.size W w10∧(k+1≤s.moves.length∧OV w base b (xu bn g ((Ad bn g).mid s.moves v x).2 m) ⟨k0,k1,k2,.slice (some ⟨gm,0,none⟩) s.moves.length cm,k4,k5,k6,k7,k8⟩ {s with moves:=((Ad bn g).mid s.moves v x).1} (Value.slice (some ⟨gm,0,none⟩) s.moves.length cm).ownBlock L w10):=by
      refine ⟨(sO hb6).trans ((jbc hT.1 fun j hj=>by subst hj;exact Vm jbB.out.box).trans (zq hg1 fun r e=>by injection e with e;subst e;exact Vm joj)),by omega,?_⟩
      rw [hst2.out,hmm'.out];exact Xr.out.step jog nJ hLx.out
     exact hfin
   ·have t2:(s.moves[x].good==(g:Int))=false:=by simpa using h2
    have hst:=Lib.hid (EG (by
     cases hq:(Ad bn g).is s.moves[x]
     ·rfl
     ·exact absurd (LY.1 hq).2 h2))
    clear hstep EG h1 h2;gi_wp2_with fail
    refine kU (by kernel_rfl) (by kernel_rfl) (by kernel_rfl) ?_
    repeat (go_big_quiet_step (fail))
    refine wpQuiet_nil ?_
    intro W6 hw6;have hb6:=aI hw6;clear hw6;clear x0 x1 y0 z1 z2 q1 q2 q3 t1 t2;gi_wp2_with fail
    exact ⟨sO hb6,by omega,by rw [hst.out];exact hI'.out.below hb6⟩
  ·have t1:(s.moves[x].src==(bn:Int))=false:=by simpa using h1
   have hst:=Lib.hid (EG (by
     cases hq:(Ad bn g).is s.moves[x]
     ·rfl
     ·exact absurd (LY.1 hq).1 h1))
   clear hstep EG h1;gi_wp2_with fail
   refine kU (by kernel_rfl) (by kernel_rfl) (by kernel_rfl) ?_
   repeat (go_big_quiet_step (fail))
   refine wpQuiet_nil ?_
   intro W6 hw6;have hb6:=aI hw6;clear hw6;clear x0 x1 y0 z1 z2 q1 q2 q3 t1;gi_wp2_with fail
   exact ⟨sO hb6,by omega,by rw [hst.out];exact hI'.out.below hb6⟩
 case hdone=>
  intro D W hD ⟨hk,hI⟩ hWd;rw [AY] at hI
  have hmv:(Ad bn g).rest s.moves v=((Ad bn g).mid s.moves v 0).1.filter fun x=>!(x.n==0):=by
   rw [bI.mid_zero];unfold bI.rest;refine fO (fun f=>List.filter f ((Ad bn g).cut s.moves v).1) (funext fun x=>?_)
   show (!decide (x.n=0))= !(x.n==0);by_cases hx:x.n=0<;>simp [hx]
  have hml:=bI.Jc (C:=Ad bn g) s.moves v 0;obtain ⟨M,ov,hmid⟩:∃ M ov,(Ad bn g).mid s.moves v 0=(M,ov):=⟨_,_,rfl⟩;rw [hmid] at hI hml hmv
  simp only at hI hml hmv
  have jie:=Lib.hid hmv;have hmid':=Lib.hid hmid;clear hmv hmid;have hI':=Lib.hid hI;have y0:W.cell? ⟨w.heap.size,0,none⟩=some (.pointer (some ⟨b,0,none⟩)):=Boxed.cell (show Boxed W w.heap.size 91 (.pointer (some ⟨b,0,none⟩)) from hI.held (w.heap.size,Obj.cells #[.pointer (some ⟨b,0,none⟩)] 91 (0,0)) (by rw [hL];simp))
  have l0:=hI.held.lt (w.heap.size,Obj.cells #[.pointer (some ⟨b,0,none⟩)] 91 (0,0)) (by rw [hL];simp)
  simp only at l0
  have c3:=hI.bx.cells.2.2.2.1;simp only at c3
  have hnb:=Lib.hid (show ∀ j,(Value.slice Am s.moves.length cm).ownBlock=some j→j≠b∧j<w.heap.size from fun j hj=>by
   refine ⟨fun he=>?_,(hB'.out.own.moves.size j hj).2⟩
   rcases hI.bx.own.moves.iD hI.bx.box (by decide) with h|h
   ·simp only at h;rw [h] at hj;cases hj
   ·exact h (by rw [← he];exact hj))
  have lb:b<W.heap.size:=hI.bx.lt;have hLD:D≠b:=by omega
  clear hI;gi_wp2_with fail
  have jfW:=Lib.hid hml;clear hml;refine wP 10 (fun w'=>Step (fun j=>(Value.slice Am s.moves.length cm).ownBlock=some j) W w') (fun w'=>Below W.heap.size W w') (fun w1 w2=>Step (fun j=>(Value.slice Am s.moves.length cm).ownBlock=some j) w1 w2) 6 [
   fun g' _=>g' 44=.pointer (some ⟨b,0,none⟩),fun g' _=>g' 45=.pointer (some ⟨b,0,none⟩),fun g' _=>g' 46=.pointer (some ⟨b,0,none⟩),fun g' _=>g' 47=.pointer (some ⟨b,0,none⟩),fun g' _=>g' 48=.pointer (some ⟨b,3,none⟩),
   fun g' _=>g' 49=.slice Am s.moves.length cm,fun g' w'=>Own gV 4 48 w' base (g' 50) (M.filter fun x=>!(x.n==0)),
   fun g' _=>g' 51=.pointer (some ⟨b,0,none⟩),fun g' _=>g' 52=.pointer (some ⟨b,0,none⟩),fun g' _=>g' 53=.pointer (some ⟨b,3,none⟩)] (by kernel_rfl) (by kernel_rfl) rfl (by kernel_rfl)
   (fun w1 w2 h hb=>h.trans (.of_below hb)) (fun w1 w2 h h'=>h.trans h') (fun w1 w2 h hb=>h.trans (hb.mono h.size)) (.of_below (aj _ _).drew) (aj _ _).drew ?jg2 (fun f w9 hT hR=>?jg3)
  case jg2=>
   simp only [eY,eG];refine bZ.cons (fV.val rfl rfl (by decide) (fun gq w' hT ho hd=>?_)) ?_
   ·have e1:=ho 1 rfl;have e2:=(hT.cell (p:=⟨w.heap.size,0,none⟩) l0 (fun h=>by have:=(hnb.out _ h).2;simp only at this;omega)).trans y0
    go_simp
   refine bZ.cons (fV.val rfl rfl (by decide) (fun gq w' hT ho hd=>?_)) ?_
   ·have e1:=ho 1 rfl;have e2:=(hT.cell (p:=⟨w.heap.size,0,none⟩) l0 (fun h=>by have:=(hnb.out _ h).2;simp only at this;omega)).trans y0
    go_simp
   refine bZ.cons (fV.val rfl rfl (by decide) (fun gq w' hT ho hd=>?_)) ?_
   ·have e1:gq 45=.pointer (some ⟨b,0,none⟩):=hd ⟨1,.data⟩ (by simp) rfl (by decide)
    go_simp
   refine bZ.cons (fV.val rfl rfl (by decide) (fun gq w' hT ho hd=>?_)) ?_
   ·have e1:gq 46=.pointer (some ⟨b,0,none⟩):=hd ⟨2,.data⟩ (by simp) rfl (by decide)
    go_simp
   refine bZ.cons (fV.val rfl rfl (by decide) (fun gq w' hT ho hd=>?_)) ?_
   ·have e1:gq 47=.pointer (some ⟨b,0,none⟩):=hd ⟨3,.data⟩ (by simp) rfl (by decide)
    go_simp
   refine bZ.cons (fV.val rfl rfl (by decide) (fun gq w' hT ho hd=>?_)) ?_
   ·have e1:gq 48=.pointer (some ⟨b,3,none⟩):=hd ⟨4,.data⟩ (by simp) rfl (by decide)
    have e2:=(hT.cell (p:=⟨b,3,none⟩) lb (fun h=>(hnb.out _ h).1 rfl)).trans c3
    go_simp
   refine bZ.cons ⟨fun gq w1 w2 h hb=>h.below hb,fun hne=>absurd rfl hne,fun gq gq' w1 he h=>?_,fun gq w' hT hJ ho hd=>?_⟩ ?_
   ·have e61:=he 6 _ 50 (.self 6) rfl rfl;simp only [e61] at h
    exact h
   ·have e1:gq 49=.slice Am s.moves.length cm:=hd ⟨5,.data⟩ (by simp) rfl (by decide)
    have hbel:=hJ rfl;have hcall:=ZM w' base (.slice Am s.moves.length cm) M 117 #[] (fun x=>x.n==0) jgW (hI'.out.below hbel).bx.own.moves (by have:=jfW.out;omega) (fun k _ V _=>jkl V _)
    unfold dO;go_simp
    refine hcall.mono ?_
    rintro e w'' ⟨v',rfl,ho',hs',_⟩;refine ⟨_,rfl,?_,hs'⟩
    simpa [kH,upd] using ho'
   refine bZ.cons (fV.val rfl rfl (by decide) (fun gq w' hT ho hd=>?_)) ?_
   ·have e1:gq 44=.pointer (some ⟨b,0,none⟩):=hd ⟨0,.data⟩ (by simp) rfl (by decide)
    go_simp
   refine bZ.cons (fV.val rfl rfl (by decide) (fun gq w' hT ho hd=>?_)) ?_
   ·have e1:gq 51=.pointer (some ⟨b,0,none⟩):=hd ⟨7,.data⟩ (by simp) rfl (by decide)
    go_simp
   refine bZ.cons (fV.val rfl rfl (by decide) (fun gq w' hT ho hd=>?_)) ?_
   ·have e1:gq 52=.pointer (some ⟨b,0,none⟩):=hd ⟨8,.data⟩ (by simp) rfl (by decide)
    go_simp
   exact bZ.nil
  case jg3=>
   obtain ⟨r44,r45,r46,r47,r48,r49,zD,r51,r52,r53,_⟩:=hR;obtain ⟨A9,c9,JG⟩:=zD.isSlice;rw [JG] at zD
   simp only [fU,qZ,eY,eG,lF,mG,mF,mD,jH,mg,iW,iy,iJ,r44,r45,r46,r47,r48,r49,JG,r51,r52,r53];clear r44 r45 r46 r47 r48 r49 r51 r52 r53 JG;have ng:aO w9 base ⟨k0,k1,k2,.slice A9 (M.filter fun x=>!(x.n==0)).length c9,k4,k5,k6,k7,k8⟩ {s with moves:=M.filter fun x=>!(x.n==0)}:=hI'.out.bx.own.jde hT zD
   have Ci:dw w9 b 95 (SV.cells ⟨k0,k1,k2,.slice Am s.moves.length cm,k4,k5,k6,k7,k8⟩++xu bn g ov m):=hT.blk hI'.out.bx.box (fun h=>(hnb.out _ h).1 rfl)
   refine EY rfl (.tmp 53) (.tmp 50) rfl rfl A9 (M.filter fun x=>!(x.n==0)).length c9 (V:=⟨k0,k1,k2,.slice Am s.moves.length cm,k4,k5,k6,k7,k8⟩) (cs:=xu bn g ov m) (b:=b) Ci ng jc2 rfl rfl rfl (fun w10 tJ nJ=>?_)
   refine gy ?_
   have hD9:w9.heap[D]?=some (.deferred (some [])):=hT.heap hWd (fun h=>by have:=(hnb.out _ h).2;omega)
   have jgI:=nJ.heap hD9 hLD;have hs10:Step (fun j=>j=b∨(Value.slice Am s.moves.length cm).ownBlock=some j) w w10:=hI'.out.st.trans ((hT.mono fun j h=>.inr h).trans (nJ.mono fun j h=>.inl h))
   have jQ:=Lib.hid tJ;clear tJ nJ ng Ci hT zD;go_wp2_with fail;have hgD:=grownBy_putObj' w10 D (.deferred none);have TN:=jQ.out.lU hgD (fun r e=>by cases e;exact ⟨_,jgI,rfl⟩)
   refine ⟨by simp,.inl ⟨_,_,rfl,run_takeDeferred jgI,?_⟩⟩
   refine ⟨.tuple #[],Gl rfl _ _ _,rfl,⟨k0,k1,k2,.slice A9 (M.filter fun x=>!(x.n==0)).length c9,k4,k5,k6,k7,k8⟩,rfl,?_,hs10.trans' (Step.dG (ks:=fun k=>some D=some k) hgD fun k e=>e) fun k hk e=>?_⟩
   ·rw [hmid'.out,jie.out];exact TN
   ·injection e with e
    omega
end Wh
namespace Wh
open Go Go.RowKit Go.Shelf Go.Proofs Go.Maps Tryz
abbrev Fq (x:Int):Lit:=.int .i64 x
theorem jcG (x:Int):WideAt.IsKeyLit (Fq x):=bP
structure lS (s:State) (b g:Nat) (l:List Hold) (j:Nat) (D:DataW Unit):Prop where
 map:IsMap D
 keys:∀ x:Int,has D (Fq x)=true↔∃ i,∃ hi:i<s.holds.length,j≤i∧(oz s b g).is s.holds[i]=true∧x=s.holds[i].order*3+s.holds[i].line
 vals:∀ o k:Nat,k<3→has D (Fq ((o:Int)*3+k))=true→∀ z,D.atKey (Fq ((o:Int)*3+k)) z=.lit (.int .i64 (aF s.holds o k b - aF l o k b))
section
variable {s:State} {b g:Nat} {l:List Hold} {j:Nat} {D:DataW Unit}
theorem lS.start:lS s b g s.holds s.holds.length (.map []):=by
 refine ⟨⟨_,rfl⟩,fun x=>⟨fun h=>(by cases h),?_⟩,fun o k _ h=>(by cases h)⟩
 rintro ⟨i,hi,hj,_⟩;omega
theorem lS.congr {l':List Hold} (h:lS s b g l j D) (he:∀ o k:Nat,aF l' o k b=aF l o k b):lS s b g l' j D:=⟨h.map,h.keys,fun o k hk hh z=>by rw [h.vals o k hk hh z,he]⟩
theorem lS.skip (h:lS s b g l (j+1) D) (hj:j<s.holds.length) (hn:(oz s b g).is s.holds[j]=false):lS s b g l j D:=by
 refine ⟨h.map,fun x=>(h.keys x).trans ⟨?_,?_⟩,h.vals⟩
 ·rintro ⟨i,hi,h1,h2,h3⟩;exact ⟨i,hi,by omega,h2,h3⟩
 ·rintro ⟨i,hi,h1,h2,h3⟩;refine ⟨i,hi,?_,h2,h3⟩
  rcases Ed j i with h4|h4
  ·omega
  ·obtain rfl:j=i:=by omega
   rw [hn] at h2
   cases h2
theorem lS.fresh (h:lS s b g l (j+1) D) (hok:bQ s.holds=true) (hj:j<s.holds.length) (hi:(oz s b g).is s.holds[j]=true):has D (Fq (s.holds[j].order*3+s.holds[j].line))=false:=by
 cases hh:has D (Fq (s.holds[j].order*3+s.holds[j].line))
 ·rfl
 ·obtain ⟨i,hil,h1,h2,h3⟩:=(h.keys _).1 hh;have hf:=(bC.1 hok).1;have f1:=(gG.1 (hf _ (eF hj))).1;have f2:=(gG.1 (hf _ (eF hil))).1;unfold jL at f1 f2
  have b1:=(wB.1 hi).1;have b2:=(wB.1 h2).1;have hnd:=BU hok;have he:hkey s.holds[i]=hkey s.holds[j]:=by
   unfold hkey;simp only [Ea];omega
  have:=(List.getElem_inj (xs:=s.holds.map hkey) (i:=i) (j:=j) (h₀:=by simpa using hil) (h₁:=by simpa using hj) hnd).1 (by simpa using he)
  omega
theorem lS.put {o k:Nat} {m:Int} (h:lS s b g l (j+1) D) (hok:bQ s.holds=true) (hj:j<s.holds.length) (hi:(oz s b g).is s.holds[j]=true) (ho:s.holds[j].order=o) (hk:s.holds[j].line=k) (hk3:k<3)
  (hlk:l.map hkey=s.holds.map hkey) (hlj:j<l.length) (hl:l[j]=s.holds[j]):lS s b g (l.set j {s.holds[j] with n:=s.holds[j].n - m}) j (D.put (Fq ((o:Int)*3+k)) (.lit (.int .i64 m))):=by
 have hb:=(wB.1 hi).1;have hnd:=BU hok;have hnl:(l.map hkey).Nodup:=by rw [hlk];exact hnd
 have hka:=tH hnd hj;rw [ho,hk,hb] at hka
 have hset:∀ o' k':Nat,aF (l.set j {s.holds[j] with n:=s.holds[j].n - m}) o' k' b=if o'=o∧k'=k then s.holds[j].n - m else aF l o' k' b:=fun o' k'=>by
  have:=QV hnl hlj (s.holds[j].n - m) o' k' b;rw [hl] at this
  rw [this,ho,hk,hb];by_cases hh:o'=o∧k'=k
  ·rw [ak hh,ak ⟨by omega,by omega,rfl⟩]
  ·rw [ah hh,ah (fun h2=>hh ⟨by omega,by omega⟩)]
 have hne:∀ x:Int,x≠(o:Int)*3+k→Fq x≠Fq ((o:Int)*3+k):=fun x hx he=>by
  injection he with _ he
  exact hx he
 refine ⟨IsMap.put h.map _ _,fun x=>?_,fun o' k' hk' hh z=>?_⟩
 ·by_cases hx:x=(o:Int)*3+k
  ·subst hx;rw [has_put_same h.map (jcG _)];exact ⟨fun _=>⟨j,hj,aA _,hi,by rw [ho,hk]⟩,fun _=>rfl⟩
  ·rw [has_put_other (hne x hx),h.keys x];constructor
   ·rintro ⟨i,hil,h1,h2,h3⟩;exact ⟨i,hil,by omega,h2,h3⟩
   ·rintro ⟨i,hil,h1,h2,h3⟩;refine ⟨i,hil,?_,h2,h3⟩
    rcases Ed j i with h4|h4
    ·omega
    ·obtain rfl:j=i:=by omega
     rw [ho,hk] at h3
     exact absurd h3 hx
 ·by_cases hx:(o':Int)*3+k'=(o:Int)*3+k
  ·obtain rfl:o'=o:=by omega
   obtain rfl:k'=k:=by omega
   rw [atKey_put_same h.map (jcG _),hset,ak ⟨rfl,rfl⟩,hka];congr 3
   omega
  ·rw [has_put_other (hne _ hx)] at hh
   rw [atKey_put_other (hne _ hx),h.vals o' k' hk' hh,hset,ah (fun h2=>hx (by rw [h2.1,h2.2]))]
end
def ksH (b mb:Nat) (V:SV) (j:Nat):Prop:=j=b∨V.holds.ownBlock=some j∨j=mb∨∃ o,o<V.lines.length∧(V.line o).ownBlock=some j
structure OU (w:World) (base b mb:Nat) (V:SV) (s:State) (bn g:Nat) (ov:Int) (l:List Hold) (j:Nat) (L:List (Nat×Obj)) (W:World):Prop where
 bx:Bx W base b 95 (xu bn g ov (.map (some mb))) V (Gg s bn l)
 held:iR L W
 st:Step (ksH b mb V) w W
 mp:∃ D,lS s bn g l j D∧W.ownsMap prog 3 (plainElem prog 3) mb (s.holds.length - j) D
section
variable {w W W':World} {base b mb bn g j:Nat} {V:SV} {s:State} {ov:Int} {l:List Hold} {L:List (Nat×Obj)}
theorem OU.own {B:Nat} (hL:∀ x∈L,x.1<B) (hB:w.heap.size≤B) (hmb:mb<w.heap.size) {rw_:Option Nat} (hs:OU w base b mb V s bn g ov l j L W)
  (hg:W.grownBy W' rw_) (hr:∀ r,rw_=some r→B≤r∧∃ o:Obj,W.heap[r]?=some o∧o.isCells=false):OU w base b mb V s bn g ov l j L W':=
 ⟨hs.bx.lU hg fun r e=>(hr r e).2,iR.from_ hL () W W' rw_ hs.held hg hr,hs.st.trans' (Step.dG (ks:=fun k=>rw_=some k) hg fun k e=>e) fun k hk e=>by have:=(hr k e).1;omega,
  hs.mp.elim fun D h=>⟨D,h.1,h.2.kept hg fun he=>by have:=(hr mb he.symm).1;omega⟩⟩
theorem OU.below (h:OU w base b mb V s bn g ov l j L W) (hb:Below W.heap.size W W'):OU w base b mb V s bn g ov l j L W':=
 ⟨h.bx.below hb,fun x hx=>(hb.block x.1 (h.held.lt x hx)).trans (h.held x hx),h.st.trans (.of_below hb),h.mp.elim fun D h=>⟨D,h.1,h.2.kept (gZ (row:=none) hb) (by simp)⟩⟩
theorem OU.skip (h:OU w base b mb V s bn g ov l (j+1) L W) (hj:j<s.holds.length) (hn:(oz s bn g).is s.holds[j]=false):OU w base b mb V s bn g ov l j L W:=
 ⟨h.bx,h.held,h.st,h.mp.elim fun D h=>⟨D,h.1.skip hj hn,h.2.mono (by omega)⟩⟩
end
theorem qG {ks:Nat→Prop} {w w':World} {k:TypeId} {R:Value→Option (DataW Unit×List MemPlace)} {mb n:Nat} {D:DataW Unit} (h:w.ownsMap prog k R mb n D) (hs:Step ks w w') (hn:¬ ks mb):w'.ownsMap prog k R mb n D:=by
 obtain ⟨es,clock,hb,F,h1,h2⟩:=h;exact ⟨es,clock,hs.heap hb hn,F,h1,h2⟩
theorem su {w:World} {k:TypeId} {R:Value→Option (DataW Unit×List MemPlace)} {mb n g:Nat} {D:DataW Unit} {t:TypeId} {cur:List Value} (h:w.ownsMap prog k R mb n D) (hb:dw w g t cur):mb≠g:=fun he=>by
 obtain ⟨es,clock,h1,_⟩:=h;rw [he,show w.heap[g]?=_ from hb] at h1
 injection h1 with h1
 cases h1
theorem Di {w:World} {k:TypeId} {R:Value→Option (DataW Unit×List MemPlace)} {mb n:Nat} {D:DataW Unit} (h:w.ownsMap prog k R mb n D):∃ o:Obj,w.heap[mb]?=some o∧o.isCells=false:=by
 obtain ⟨es,clock,h1,_⟩:=h;exact ⟨_,h1,rfl⟩
theorem TK {B:Nat} {ks:Nat→Prop} {W W':World} (h:Step ks W W') (hk:∀ j,ks j→j<B):KeepsFrom B W W':=⟨h.size,fun k o hB hh _=>h.heap hh fun hj=>by have:=hk k hj;omega⟩
theorem Wp:Keyed prog 3:=int_keyed underlying3
theorem jce (w:World):(zeroValue 3).run prog w=.ok (.int .i64 0) w:=by kernel_rfl
theorem jfi {x:Int} (h: -9223372036854775808≤x∧x≤9223372036854775807):keyOf prog 3 (.int .i64 x)=some (Fq x):=keyOf_int_mk underlying3 (WalkArith.wf_i64 h)
end Wh
