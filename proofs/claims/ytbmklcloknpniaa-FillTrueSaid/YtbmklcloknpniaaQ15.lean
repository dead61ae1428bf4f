/- Texts of the claim, joined: FillS, FillE. -/
import Derived.WalkMore
import Derived.Test.YtbmklcloknpniaaQ13
import Derived.Test.YtbmklcloknpniaaQ14
import Derived.Test.YtbmklcloknpniaaQ11
namespace Wh
open Go Go.RowKit Go.Shelf Go.Proofs
attribute [local go_sem] run_indexAt_letter evL_tmp evL_const evL_func
attribute [local go_sem] Oper.semAt_some

section
variable {p : Plan} {s : State}
/-- Filled for the bins of a list. -/
def stX (p : Plan) (s : State) (pre : List (BinK p true)) : State := (pre.map Subtype.val).foldl (fun t b => (List.range p.sizes.length).foldl (fillGood p b) t) s
theorem stX_snoc (pre : List (BinK p true)) (x : BinK p true) : stX p s (pre ++ [x]) = (List.range p.sizes.length).foldl (fillGood p x.1) (stX p s pre) := by
  unfold stX
  rw [List.map_append, List.foldl_append]
  rfl
theorem stX_all : stX p s (kindsX p true p.bins.length) = fillS p s := by
  unfold stX
  rw [kindsX_val p true _ (Nat.le_refl _)]
  rfl
theorem stX_full {k : Nat} (hk : k ≤ p.bins.length) (h : 8 ≤ (stX p s (kindsX p true k)).moves.length) : fillS p s = stX p s (kindsX p true k) := by
  obtain ⟨r, hr⟩ := kindsX_pre p true p.bins.length k hk
  rw [← stX_all, hr]
  unfold stX at h ⊢
  rw [List.map_append, List.foldl_append]
  exact fillBins_full h p _
theorem stX_filled (h : checkState p s = 0) (pre : List (BinK p true)) : Filled p s (stX p s pre) :=
  foldl_inv (P := Filled p s) (fun t b hb ht => by
    obtain ⟨x, _, rfl⟩ := List.mem_map.1 hb
    exact filled_bin ht x.2.1 x.2.2) (filled_self h)
/-- .. and the goods ahead of g. -/
def gdX (p : Plan) (b : Nat) (t : State) (g : Nat) : State := (List.range g).foldl (fillGood p b) t
theorem gdX_succ (b : Nat) (t : State) (g : Nat) : gdX p b t (g + 1) = fillGood p b (gdX p b t g) g := by
  unfold gdX
  rw [List.range_succ, List.foldl_append]
  rfl
theorem gdX_full {b : Nat} {t : State} {g : Nat} (h : 8 ≤ (gdX p b t g).moves.length) : ∀ n, g ≤ n → gdX p b t n = gdX p b t g
  | 0, hn => by
    obtain rfl : g = 0 := by omega
    rfl
  | n + 1, hn => by
    by_cases he : g = n + 1
    · rw [he]
    · rw [gdX_succ, gdX_full h n (by omega), fillGood_full h]
theorem gdX_filled {t : State} {b : Nat} (h : Filled p s t) (hb : b < p.bins.length) (hf : (p.bin b).front = true) : ∀ g, g ≤ p.sizes.length → Filled p s (gdX p b t g)
  | 0, _ => h
  | g + 1, hg => by
    rw [gdX_succ]
    exact filled_good (gdX_filled h hb hf g (by omega)) hb (by omega) hf
/-- .. and out of the bins of a list. -/
def siX (p : Plan) (b g : Nat) (t : State) (pre : List (BinK p false)) : State := (pre.map Subtype.val).foldl (fun t f => fill1 p t b g f) t
theorem siX_snoc (b g : Nat) (t : State) (pre : List (BinK p false)) (x : BinK p false) : siX p b g t (pre ++ [x]) = fill1 p (siX p b g t pre) b g x.1 := by
  unfold siX
  rw [List.map_append, List.foldl_append]
  rfl
theorem siX_all {b g : Nat} {t : State} (h : cell t.on b g + coming t b g < (p.bin b).low) : fillGood p b t g = siX p b g t (kindsX p false p.bins.length) := by
  unfold siX fillGood
  rw [kindsX_val p false _ (Nat.le_refl _), if_pos h]
  rfl
theorem siX_full {b g k : Nat} {t : State} (hk : k ≤ p.bins.length) (h : 8 ≤ (siX p b g t (kindsX p false k)).moves.length) : siX p b g t (kindsX p false p.bins.length) = siX p b g t (kindsX p false k) := by
  obtain ⟨r, hr⟩ := kindsX_pre p false p.bins.length k hk
  rw [hr]
  unfold siX at h ⊢
  rw [List.map_append, List.foldl_append]
  generalize (kindsX p false k).map Subtype.val = l at h ⊢
  generalize l.foldl (fun t f => fill1 p t b g f) t = u at h ⊢
  clear hr
  induction r with
  | nil => rfl
  | cons x r ih =>
    rw [List.map_cons, List.foldl_cons, fill1_full h]
    exact ih
theorem siX_filled {t : State} {b g : Nat} (h : Filled p s t) (hb : b < p.bins.length) (hf : (p.bin b).front = true) (hg : g < p.sizes.length) (pre : List (BinK p false)) : Filled p s (siX p b g t pre) :=
  foldl_inv (P := Filled p s) (fun t f hm ht => by
    obtain ⟨x, _, rfl⟩ := List.mem_map.1 hm
    exact filled_one ht hb hg x.2.1 hf x.2.2) h
end

/-- What a loop over bins keeps: the state in its box, blocks that lie as they lay, all that is old. -/
def keepI (base bx : Nat) (V : Value → SV) (L : List (Nat × Obj)) (W0 : World) (T : State) (W : World) : Prop :=
  (∃ u, Bx W base bx 31 [] (V u) T) ∧ HeldDs L W ∧ Below W0.heap.size W0 W
theorem keepI_own {β : Type} {base bx : Nat} {V : Value → SV} {L : List (Nat × Obj)} {W0 : World} (T : β → State) {B : Nat} (hL : ∀ x ∈ L, x.1 < B) (hB : W0.heap.size ≤ B) : OwnFrom B (fun s W => keepI base bx V L W0 (T s) W) :=
  fun s X Y row hs hg hr => by
    obtain ⟨⟨u, h1⟩, h2, h3⟩ := hs
    exact ⟨⟨u, h1.noncell hg fun r e => (hr r e).2⟩, HeldDs.from_ hL s X Y row h2 hg hr, h3.grown hg h3.size (fun k hk => by have := (hr k hk).1; omega)⟩



theorem HeldDs.below {L : List (Nat × Obj)} {W W' : World} (h : HeldDs L W) (hb : Below W.heap.size W W') : HeldDs L W' := fun x hx => (hb.block x.1 (h.lt x hx)).trans (h x hx)
theorem KeepsFrom.weak {B B' : Nat} {W W' : World} (h : KeepsFrom B W W') (hB : B ≤ B') : KeepsFrom B' W W' := ⟨h.size, fun k o hk ho hc => h.same k o (Nat.le_trans hB hk) ho hc⟩
/-- What a round leaves: boxes, all below 'base', all that is no cells from B7 on. -/
structure Sides (L : List (Nat × Obj)) (base B7 : Nat) (Wo W : World) : Prop where
  held : HeldDs L W
  b : Below base Wo W
  k : KeepsFrom B7 Wo W
namespace Sides
variable {L : List (Nat × Obj)} {base B7 : Nat} {Wo W W' : World}
theorem refl (h : HeldDs L W) : Sides L base B7 W W := ⟨h, Below.refl _ _, KeepsFrom.refl _ _⟩
theorem trans {L' : List (Nat × Obj)} (h : Sides L base B7 Wo W) (h' : Sides L' base B7 W W') : Sides L' base B7 Wo W' := ⟨h'.held, h.b.trans h'.b, h.k.trans h'.k⟩
theorem below (h : Sides L base B7 Wo W) (hn : base ≤ Wo.heap.size) (hb : Below W.heap.size W W') : Sides L base B7 Wo W' := ⟨h.held.below hb, h.b.trans (hb.mono (Nat.le_trans hn h.k.size)), h.k.trans (keeps_below hb)⟩
theorem grown (h : Sides L base B7 Wo W) (hn : base ≤ Wo.heap.size) {row : Option Nat} (hg : W.grownBy W' row) (hr : ∀ r, row = some r → base ≤ r ∧ (∃ cs t sp, W.heap[r]? = some (.cells cs t sp)) ∧ ∀ x ∈ L, x.1 ≠ r) : Sides L base B7 Wo W' :=
  ⟨h.held.grown hg fun x hx he => (hr _ he.symm).2.2 x hx rfl, h.b.trans ((Below.refl _ _).grown hg (Nat.le_trans hn h.k.size) fun r e => (hr r e).1), h.k.trans (keeps_cells hg fun r e => (hr r e).2.1)⟩
theorem step (h : Sides L base B7 Wo W) (hn : base ≤ Wo.heap.size) {b : Nat} (hs : Step (· = b) W W') (hb : base ≤ b) (hc : ∃ cs t sp, W.heap[b]? = some (.cells cs t sp)) (hL : ∀ x ∈ L, x.1 ≠ b) : Sides L base B7 Wo W' := by
  refine ⟨fun x hx => hs.heap (h.held x hx) (hL x hx), h.b.trans (hs.below (fun q hq => by omega) (Nat.le_trans hn h.k.size)), h.k.trans ⟨hs.size, fun k o _ hk ho => hs.heap hk fun he => ?_⟩⟩
  subst he
  obtain ⟨cs, t, sp, hc⟩ := hc
  rw [hc] at hk
  injection hk with hk
  subst hk
  cases ho
theorem own {β : Type} {B : Nat} (hL : ∀ x ∈ L, x.1 < B) (hn : base ≤ Wo.heap.size) (hB : Wo.heap.size ≤ B) : OwnFrom B (fun (_ : β) W => Sides L base B7 Wo W) := fun s X Y row hs hg hr =>
  ⟨HeldDs.from_ hL s X Y row hs.held hg hr, ownFrom_below hn (Nat.le_trans hn hB) s X Y row hs.b hg hr, ownFrom_keepsFrom hB s X Y row hs.k hg hr⟩
end Sides
/-- .. with the state in its box. -/
def keepJ (base bx : Nat) (V : Value → SV) (L : List (Nat × Obj)) (B7 : Nat) (Wo : World) (T : State) (W : World) : Prop :=
  (∃ u, Bx W base bx 31 [] (V u) T) ∧ Sides L base B7 Wo W
theorem keepJ_own {β : Type} {base bx B7 : Nat} {V : Value → SV} {L : List (Nat × Obj)} {Wo : World} (T : β → State) {B : Nat} (hL : ∀ x ∈ L, x.1 < B) (hn : base ≤ Wo.heap.size) (hB : Wo.heap.size ≤ B) : OwnFrom B (fun s W => keepJ base bx V L B7 Wo (T s) W) :=
  fun s X Y row hs hg hr => by
    obtain ⟨⟨u, h1⟩, h2⟩ := hs
    exact ⟨⟨u, h1.noncell hg fun r e => (hr r e).2⟩, Sides.own hL hn hB s X Y row h2 hg hr⟩
/-- One element more, in a round. -/
theorem wpListIn_push {P : Program} (w : World) {F : Fence} {n : Nat} {α : Type} {enc : α → List Value} {ops : Array Oper} {rest : List Oper} {o : Oper} {a : Act} {Q : Exit → Act → World → Prop} (hgd : o.guard = none) (s x : Operand) (t e : TypeId)
    (ho : o.op = .call { callee := .builtin .append, args := #[s, x], argTypes := #[t, t] }) (base : Nat) (z : Value) (size bytes : Nat) (ht : P.underlying t = some (.slice e)) (hi : Elem P e z size bytes)
    (hzs : z.cells.size = size) (hsz : 0 < size) (hby : bytes ≤ 64) (v : Value) (l : List α) (y : α) (hs : a.eval s = v) (hown : Own enc size e w base v l)
    (ad : Addr) (c : Nat) (hx : a.eval x = .slice (some ad) 1 c) (hl : (enc y).length = size) (hnews : ∀ j u, (enc y)[j]? = some u → w.cell? (ad.add j) = some u) (h1 : ∀ u ∈ enc y, u.oneCell' = true)
    (hn : l.length ≤ 1000000) (hbase : base ≤ w.heap.size)
    (h : ∀ v' w', Own enc size e w' base v' (l ++ [y]) → w.grownBy w' v.ownBlock → Below base w w' → wpListIn F n P ops Q rest (a.put o.dst v') w') :
    wpListIn F n P ops Q (o :: rest) a w := by
  obtain ⟨i, hi, hz, hsize, hbytes⟩ := hi
  have hb : (l.length + 1) * bytes ≤ 140737488355328 := Nat.le_trans (Nat.mul_le_mul (show l.length + 1 ≤ 1000001 by omega) hby) (by decide)
  refine wpListIn_append_own w hgd s x t ho base e i z size bytes ht hi hz hsize hbytes hzs hsz v l.length _ hs hown ad 1 c (enc y) hx (by rw [hl, Nat.one_mul]) hnews h1 (by unfold maxLen; omega) hb hbase ?_
  intro v' w' h2 h3 _
  refine h v' w' ?_ h3 ((Below.refl _ _).grown h3 hbase fun k hk => (World.ownsRow.lt hown k hk).1)
  unfold Own
  rw [List.length_append, List.flatMap_append]
  simpa using h2
end Wh
namespace Wh
open Go Go.RowKit Go.Shelf Go.Proofs
attribute [local go_sem] run_indexAt_letter evL_tmp evL_const evL_func
attribute [local go_sem] Oper.semAt_some

set_option maxHeartbeats 8000000 in
set_option maxRecDepth 100000 in
theorem flFill (w : World) (v vs : Value) (p : Plan) (s : State) (hp : PlanV w w.heap.size v p) (hv : StateV w w.heap.size vs s) :
    Calls Try.prog 4 #[v, vs] w (ActPost (fill p s) w) := by
  obtain ⟨Ab, cb, As, cs, rfl, hP', hBn, hSz, hlb, hls⟩ := openPl hp
  obtain ⟨A0, c0, A1, c1, A2, c2, A3, c3, A4, c4, A5, c5, A6, c6, rfl, hV, hN, hO, hH, hM, hI, hU, hX, hl0, hl1, hl2, hl3, hl4, hl5, hl6⟩ := openOne hv
  refine (callsIn_wide (n := 9)).1 ?_
  refine callsIn_of_wp_marks Try.func4 rfl trivial ?_ rfl
  simp only [Try.ntmps4, List.size_toArray, List.length_cons, List.length_nil, Nat.reduceAdd, Nat.reduceSub, Array.replicate_succ, Array.replicate_zero, List.push_toArray, List.append_toArray, List.nil_append, List.cons_append]
  refine wpIn_wide.2 ?_
  go_wp2_with fail
  obtain ⟨W0, hW0, hb0, hsz0, hsz1, hsE, hK, hR⟩ := boxesAct w p s Ab cb As cs A0 c0 A1 c1 A2 c2 A3 c3 A4 c4 A5 c5 A6 c6
  rw [hW0]
  clear hW0
  go_step3
  obtain ⟨⟨y0, y1⟩, x0, x1, x2, x3, x4, x5, x6, hbz0, hbz1⟩ := hK.out W0 (Below.refl W0.heap.size W0)
  go_wp2_with fail
  clear y0 y1 x0 x1 x2 x3 x4 x5 x6 hbz0 hbz1
  refine (sCheck _ _ _ p s (hP'.out _ hb0) (hV.out _ hb0)).mono ?_
  rintro e W1 ⟨rfl, h1⟩
  have hB1 := hb0.trans (h1.mono hb0.size)
  obtain ⟨⟨y0, y1⟩, x0, x1, x2, x3, x4, x5, x6, hbz0, hbz1⟩ := hK.out W1 (h1)
  by_cases hc : checkState p s = 0
  · have hc' := Lib.hid hc
    have hsn := Lib.hid (checkState_zero.1 hc).1
    have hfin := Lib.hid (fill_ok hc)
    rw [hc]
    clear hc
    have hcnt := hsn.out.counts
    go_wp2_with fail
    clear y0 y1 x0 x1 x2 x3 x4 x5 x6 hbz0 hbz1
    refine (sOwn _ _ p s (hV.out _ hB1) hsn.out).mono ?_
    rintro e W5 ⟨_, rfl, ⟨V5, rfl, ho5⟩, h5⟩
    obtain ⟨gon, con, _, _, _, _, eon, _⟩ := ho5.onAt (b := 0) (g := 0) (by rw [hsn.out.onLen]; omega) (by rw [hsn.out.rowLen (by omega)]; omega)
    obtain ⟨k0, k1, k2, k3, k4, k5, k6, k7, k8⟩ := V5
    obtain rfl : k0 = .slice (some ⟨gon, 0, none⟩) s.on.length con := eon
    have hone6 := (ho5).one
    have hnb6 := newBox (W5)
    go_wp2_with (refine wpList_store_state rfl (.tmp 7) (.tmp 24) rfl rfl (World.heap (W5)).size nilSV (⟨.slice (some ⟨gon, 0, none⟩) s.on.length con, k1, k2, k3, k4, k5, k6, k7, k8⟩ : SV) hnb6 rfl rfl hone6 (fun w6 hbox6 hg6 => ?_); refine Hid.out ?_)
    unfold Hid
    have hbb6 := newBelow hg6
    have hbl6 := hbox6.lt
    clear hone6 hnb6 hg6
    have hx6 := Lib.hid (Bx.of hbox6 (ho5.below hbb6))
    have h06 := h1.trans ((h5.trans (hbb6.mono h5.size)).mono h1.size)
    have hle : w.heap.size ≤ W1.heap.size := hB1.size
    have hle0 : W0.heap.size ≤ W1.heap.size := h1.size
    have hle5 : W1.heap.size ≤ W5.heap.size := h5.size
    clear hbox6 ho5 hbb6 h5 hbl6 h1 hB1
    generalize W1.heap.size = base at hx6 hle hle0 hle5
    generalize W5.heap.size = bx at hx6 hle5 ⊢
    have hbl6 : bx < w6.heap.size := hx6.out.lt
    obtain ⟨⟨y0, y1⟩, x0, x1, x2, x3, x4, x5, x6, hbz0, hbz1⟩ := hK.out w6 (h06)
    go_wp2_with fail
    go_step3
    go_wp2_with fail
    clear y0 y1 x0 x1 x2 x3 x4 x5 x6 hbz0 hbz1
    refine ((callsIn_wide (n := 8)).1 (bins_in Fence.wide 8 trivial rfl _ _ true _)).mono ?_
    rintro e W2 ⟨rfl, rfl⟩
    have hbA := Blk.new w6 25 #[.slice Ab p.bins.length cb, .slice As p.sizes.length cs]
    have hbB : HeldDs [(w6.heap.size + 1, Obj.cells #[.bool true] 4 (0, 0))] ((w6.alloc (.cells #[.slice Ab p.bins.length cb, .slice As p.sizes.length cs] 25)).alloc (.cells #[.bool true] 4)) := by
      intro x hx
      simp at hx
      subst hx
      exact heap_alloc_at (by simp)
    have hba : Below w6.heap.size w6 ((w6.alloc (.cells #[.slice Ab p.bins.length cb, .slice As p.sizes.length cs] 25)).alloc (.cells #[.bool true] 4)) := ((Below.refl _ _).alloc (Nat.le_refl _) _).alloc (by simp) _
    have hbA' := hbA.alloc (.cells #[.bool true] 4)
    have hszA : ((w6.alloc (.cells #[.slice Ab p.bins.length cb, .slice As p.sizes.length cs] 25)).alloc (.cells #[.bool true] 4)).heap.size = w6.heap.size + 1 + 1 := by simp
    go_wp2_with fail
    clear hbA
    generalize (w6.alloc (.cells #[.slice Ab p.bins.length cb, .slice As p.sizes.length cs] 25)).alloc (.cells #[.bool true] 4) = w7 at hbB hba hbA' hszA ⊢
    have hx7 := Lib.hid (hx6.out.below hba)
    have h07 := h06.trans (hba.mono h06.size)
    have hsz7 : w6.heap.size ≤ w7.heap.size := hba.size
    generalize w6.heap.size = z6 at hbB hbA' hszA hsz7 hbl6 ⊢
    clear hba hx6 h06
    have hB7 := hb0.trans (h07.mono hb0.size)
    refine (wpIn_wide (n := 9)).1 ?_
    refine rangeBox (sb := 8) p true 9 (by omega) z6 (z6 + 1) base Ab As cb cs (by omega) (by omega) (by omega) (by omega) rfl (hbA'.cell (j := 0) rfl) (hbA'.cell (j := 1) rfl) (Boxed.cell (show Boxed w7 (z6 + 1) 4 (.bool true) from hbB (z6 + 1, Obj.cells #[.bool true] 4 (0, 0)) (by simp))) ?hA
      (fun pre W => keepI base bx (fun u => ⟨.slice (some ⟨gon, 0, none⟩) s.on.length con, k1, k2, u, k4, k5, k6, k7, k8⟩) [(z6 + 1, Obj.cells #[.bool true] 4 (0, 0))] W0 (stX p s pre) W)
      (fun c pre W => c = Code.exit 0 ∧ keepI base bx (fun u => ⟨.slice (some ⟨gon, 0, none⟩) s.on.length con, k1, k2, u, k4, k5, k6, k7, k8⟩) [(z6 + 1, Obj.cells #[.bool true] 4 (0, 0))] W0 (stX p s pre) W ∧ 8 ≤ (stX p s pre).moves.length)
      (keepI_own _ ?hL ?hW) ?hIx ⟨⟨k3, hx7.out⟩, hbB, h07⟩ ?hsz ?hassign ?hbody ?hdone ?hstop
    case hA => exact ((hBn.out w (Below.refl _ _)).at_).up hB7 hle
    case hL =>
      intro x hx
      simp at hx
      subst hx
      show z6 + 1 < w7.heap.size
      omega
    case hW => exact h07.size
    case hIx =>
      intro c pre X Y row hs hg hr
      exact ⟨hs.1, keepI_own (fun pre => stX p s pre) (B := w7.heap.size) (by
        intro x hx
        simp at hx
        subst hx
        show z6 + 1 < w7.heap.size
        omega) h07.size pre X Y row hs.2.1 hg hr, hs.2.2⟩
    case hsz =>
      intro pre W hI
      have := hI.2.1.lt (z6 + 1, Obj.cells #[.bool true] 4 (0, 0)) (by simp)
      simp only at this
      omega
    case hassign =>
      intro l x W K hK
      simp only [List.setIfInBounds_toArray, List.set_cons_zero, List.set_cons_succ] at hK ⊢
      gi_wp2
      exact hK
    case hbody =>
      intro l pre x B W hl hr hI hBo hBw
      simp only [List.setIfInBounds_toArray, List.set_cons_zero, List.set_cons_succ]
      obtain ⟨b, hb, hfr⟩ := x
      obtain ⟨⟨u, hx⟩, hH, h0⟩ := hI
      obtain ⟨⟨y0, y1⟩, x0, x1, x2, x3, x4, x5, x6, hbz0, hbz1⟩ := hK.out W (h0)
      have hcB := hBo.cell
      gi_wp2_with fail
      clear y0 y1 x0 x1 x2 x3 x4 x5 x6 hbz0 hbz1
      obtain ⟨rl, hr⟩ := hr
      have hz7 : z6 + 2 ≤ w7.heap.size := by omega
      clear hszA
      have hWs : w7.heap.size ≤ W.heap.size := Nat.le_trans hl (Nat.le_of_lt (Array.getElem?_eq_some_iff.1 hr).1)
      gi_loopw [31] (fun i wr => ∃ (g : Nat) (u : Value), g ≤ p.sizes.length ∧ i = .int .i64 g ∧ Bx wr base bx 31 [] ⟨.slice (some ⟨gon, 0, none⟩) s.on.length con, k1, k2, u, k4, k5, k6, k7, k8⟩ (gdX p b (stX p s pre) g) ∧ Sides [(z6 + 1, Obj.cells #[.bool true] 4 (0, 0)), (B, Obj.cells #[.int .i64 b] 3 (0, 0))] base w7.heap.size W wr) (fun i _ => p.sizes.length - (intOf i).toNat)
      case atStart =>
        refine ⟨0, u, Nat.zero_le _, rfl, hx, Sides.refl ?_⟩
        intro y hy
        simp at hy
        rcases hy with rfl | rfl
        · exact hH _ (by simp)
        · exact hBo
      case round =>
        have hFb := Lib.hid (stX_filled hc'.out pre)
        have hHo := hH
        clear hx hH hBo u hcB
        have hbn : base ≤ W.heap.size := by omega
        obtain ⟨g, u, hg, rfl, hx, hS⟩ := hrel
        have hx' := Lib.hid hx
        clear hx
        have h0r := h0.trans (hS.b.mono hle0)
        have hB0 := hb0.trans (h0r.mono hb0.size)
        have hcB : wr.cell? ⟨B, 0, none⟩ = some (.int .i64 b) := Boxed.cell (show Boxed wr B 3 (.int .i64 b) from hS.held (B, Obj.cells #[.int .i64 b] 3 (0, 0)) (by simp))
        obtain ⟨⟨y0, y1⟩, x0, x1, x2, x3, x4, x5, x6, hbz0, hbz1⟩ := hK.out wr (h0r)
        by_cases hg1 : g < p.sizes.length
        · have hgi : (g : Int) < (p.sizes.length : Int) := by omega
          obtain ⟨os, ls, rs⟩ := (hSz.out wr hB0).at_.int hg1
          have hFl := Lib.hid (gdX_filled hFb.out hb hfr g hg)
          have hTs := Lib.hid hFl.out.right.sane
          have hon := Lib.hid hFl.out.on
          have hnx := Lib.hid (gdX_succ (p := p) b (stX p s pre) g)
          obtain ⟨T, hT⟩ : ∃ T, gdX p b (stX p s pre) g = T := ⟨_, rfl⟩
          have hT' := Lib.hid hT
          rw [hT] at hx' hFl hTs hon hnx
          clear hT
          obtain ⟨c0, c1, c2, c3, c4, c5, c6⟩ := hx'.out.cells
          simp only at c0 c1 c2 c3 c4 c5 c6
          have lbx := hx'.out.lt
          have lB := hS.held.lt _ (List.mem_cons_of_mem _ (List.mem_cons_self ..))
          simp only at lB
          gi_wp2_with fail
          have ha : Below wr.heap.size wr ((wr.alloc (.cells #[.int .i64 g] 3)).alloc (.cells #[.int .i64 (intAt p.sizes g)] 3)) := ((Below.refl _ _).alloc (Nat.le_refl _) _).alloc (by simp) _
          refine ⟨trivial, CallsIn.inRound l (callsIn_wide.2 ((flLacks _ _ _ p T b g (hP'.out _ (hB0.trans (ha.mono hB0.size))) ((hx'.out.own.view hTs.out).up ha ha.size) hTs.out hb hg1).mono ?_))⟩
          rintro e W3 ⟨rfl, h3⟩
          clear y0 y1 x0 x1 x2 x3 x4 x5 x6 hbz0 hbz1
          clear c0 c1 c2 c3 c4 c5 c6 os ls rs hcB
          have hH2 : HeldDs [(z6 + 1, Obj.cells #[.bool true] 4 (0, 0)), (B, Obj.cells #[.int .i64 b] 3 (0, 0)), (wr.heap.size, Obj.cells #[.int .i64 g] 3 (0, 0)), (wr.heap.size + 1, Obj.cells #[.int .i64 (intAt p.sizes g)] 3 (0, 0))] ((wr.alloc (.cells #[.int .i64 g] 3)).alloc (.cells #[.int .i64 (intAt p.sizes g)] 3)) := by
            have hHa := (hS.held.alloc (.cells #[.int .i64 g] 3)).alloc (.cells #[.int .i64 (intAt p.sizes g)] 3)
            intro y hy
            simp at hy
            rcases hy with rfl | rfl | rfl | rfl
            · exact hHa _ (by simp)
            · exact hHa _ (by simp)
            · exact (heap_alloc_old (by simp)).trans (heap_alloc_at rfl)
            · exact heap_alloc_at (by simp)
          have h03' := ha.trans (h3.mono ha.size)
          have hx3 := Lib.hid (hx'.out.below h03')
          have hS2 := hS.below hbn h03'
          have hS3 : Sides [(z6 + 1, Obj.cells #[.bool true] 4 (0, 0)), (B, Obj.cells #[.int .i64 b] 3 (0, 0)), (wr.heap.size, Obj.cells #[.int .i64 g] 3 (0, 0)), (wr.heap.size + 1, Obj.cells #[.int .i64 (intAt p.sizes g)] 3 (0, 0))] base w7.heap.size W W3 := ⟨hH2.below h3, hS2.b, hS2.k⟩
          have h03 := h0.trans (hS3.b.mono hle0)
          have hw3 : wr.heap.size + 2 ≤ W3.heap.size := by have := h3.size; simp at this; omega
          clear ha h3 hH2 hS hS2 h03' hx' h0r hB0
          generalize wr.heap.size = z9 at hS3 hw3 lbx lB ⊢
          by_cases hlk : cell T.on b g + coming T b g < (p.bin b).low
          · rw [decide_eq_true hlk]
            have hsX := Lib.hid (siX_all hlk)
            have hB3 := hb0.trans (h03.mono hb0.size)
            obtain ⟨⟨y0, y1⟩, x0, x1, x2, x3, x4, x5, x6, hbz0, hbz1⟩ := hK.out W3 (h03)
            gi_wp2_with fail
            clear y0 y1 x0 x1 x2 x3 x4 x5 x6 hbz0 hbz1
            refine ⟨trivial, CallsIn.inRound l (callsIn_wide.2 ((callsIn_wide (n := 8)).1 (bins_in Fence.wide 8 trivial rfl _ _ false _) |>.mono ?_))⟩
            rintro e W2 ⟨rfl, rfl⟩
            have hbA := Blk.new W3 25 #[.slice Ab p.bins.length cb, .slice As p.sizes.length cs]
            have hba : Below W3.heap.size W3 ((W3.alloc (.cells #[.slice Ab p.bins.length cb, .slice As p.sizes.length cs] 25)).alloc (.cells #[.bool false] 4)) := ((Below.refl _ _).alloc (Nat.le_refl _) _).alloc (by simp) _
            have hH4 : HeldDs [(z6 + 1, Obj.cells #[.bool true] 4 (0, 0)), (B, Obj.cells #[.int .i64 b] 3 (0, 0)), (z9, Obj.cells #[.int .i64 g] 3 (0, 0)), (z9 + 1, Obj.cells #[.int .i64 (intAt p.sizes g)] 3 (0, 0)), (W3.heap.size + 1, Obj.cells #[.bool false] 4 (0, 0))] ((W3.alloc (.cells #[.slice Ab p.bins.length cb, .slice As p.sizes.length cs] 25)).alloc (.cells #[.bool false] 4)) := by
              have hHa := (hS3.held.alloc (.cells #[.slice Ab p.bins.length cb, .slice As p.sizes.length cs] 25)).alloc (.cells #[.bool false] 4)
              intro y hy
              simp at hy
              rcases hy with rfl | rfl | rfl | rfl | rfl
              · exact hHa _ (by simp)
              · exact hHa _ (by simp)
              · exact hHa _ (by simp)
              · exact hHa _ (by simp)
              · exact heap_alloc_at (by simp)
            have hbA' := hbA.alloc (.cells #[.bool false] 4)
            have hsz4 : ((W3.alloc (.cells #[.slice Ab p.bins.length cb, .slice As p.sizes.length cs] 25)).alloc (.cells #[.bool false] 4)).heap.size ≥ W3.heap.size + 1 + 1 := by simp
            gi_wp2_with fail
            have hx4 := Lib.hid (hx3.out.below hba)
            have h04 := h03.trans (hba.mono h03.size)
            have hS4 := (hS3.below hbn hba).b
            have hS4k := (hS3.below hbn hba).k
            have hsz3 : z9 + 2 ≤ W3.heap.size := hw3
            clear hbA hS3 hx3 h03 hw3
            generalize (W3.alloc (.cells #[.slice Ab p.bins.length cb, .slice As p.sizes.length cs] 25)).alloc (.cells #[.bool false] 4) = w4 at hH4 hbA' hsz4 hx4 h04 hS4 hS4k hba ⊢
            clear hba
            generalize W3.heap.size = z3 at hH4 hbA' hsz4 hsz3 ⊢
            have hB4 := hb0.trans (h04.mono hb0.size)
            obtain ⟨LL, hLL⟩ : ∃ LL : List (Nat × Obj), LL = [(z6 + 1, Obj.cells #[.bool true] 4 (0, 0)), (B, Obj.cells #[.int .i64 b] 3 (0, 0)), (z9, Obj.cells #[.int .i64 g] 3 (0, 0)), (z9 + 1, Obj.cells #[.int .i64 (intAt p.sizes g)] 3 (0, 0)), (z3 + 1, Obj.cells #[.bool false] 4 (0, 0))] := ⟨_, rfl⟩
            rw [← hLL] at hH4
            have hLL' := Lib.hid hLL
            clear hLL
            have hrl4 := hS4k.same l _ hl hr rfl
            have hWs4 : W.heap.size ≤ w4.heap.size := hS4k.size
            have hLlt : ∀ x ∈ LL, x.1 < w4.heap.size := hH4.lt
            refine rangeRound (q := 48) (sb := 13) p false 7 l (by omega) hrl4 z3 (z3 + 1) base Ab As cb cs (by omega) (by omega) (by omega) (by omega) rfl (hbA'.cell (j := 0) rfl) (hbA'.cell (j := 1) rfl) (Boxed.cell (show Boxed w4 (z3 + 1) 4 (.bool false) from hH4 (z3 + 1, Obj.cells #[.bool false] 4 (0, 0)) (by rw [hLL'.out]; simp))) ?jA
              (fun pre' W' => keepJ base bx (fun u => (⟨.slice (some ⟨gon, 0, none⟩) s.on.length con, k1, k2, u, k4, k5, k6, k7, k8⟩ : SV)) LL w7.heap.size W (siX p b g T pre') W')
              (fun c pre' W' => c = Code.exit 0 ∧ keepJ base bx (fun u => (⟨.slice (some ⟨gon, 0, none⟩) s.on.length con, k1, k2, u, k4, k5, k6, k7, k8⟩ : SV)) LL w7.heap.size W (siX p b g T pre') W' ∧ 8 ≤ (siX p b g T pre').moves.length)
              (keepJ_own _ hLlt hbn hWs4) ?jIx ⟨⟨u, hx4.out⟩, hH4, hS4, hS4k⟩ ?jassign ?jbody ?jdone ?jstop
            case jA => exact ((hBn.out w (Below.refl _ _)).at_).up hB4 hle
            case jIx =>
              intro c pre' X Y row hs hg hr
              exact ⟨hs.1, keepJ_own (fun pre' => siX p b g T pre') (B := w4.heap.size) hLlt hbn hWs4 pre' X Y row hs.2.1 hg hr, hs.2.2⟩
            case jassign =>
              intro l x W K hK
              simp only [List.setIfInBounds_toArray, List.set_cons_zero, List.set_cons_succ] at hK ⊢
              gi_wp2
              exact hK
            case jbody =>
              intro l2 pre' x W' hI
              simp only [List.setIfInBounds_toArray, List.set_cons_zero, List.set_cons_succ]
              clear hx4 hS4 hS4k hB4 h04
              obtain ⟨f, hf, hff⟩ := x
              obtain ⟨⟨u2, hx⟩, hS⟩ := hI
              have hnx2 := Lib.hid (siX_snoc b g T pre' ⟨f, hf, hff⟩)
              have hFl2 := Lib.hid (siX_filled hFl.out hb hfr hg1 pre')
              have hTs2 := Lib.hid hFl2.out.right.sane
              have hon2 := Lib.hid hFl2.out.on
              have hx' := Lib.hid hx
              clear hx
              obtain ⟨U, hU⟩ : ∃ U, siX p b g T pre' = U := ⟨_, rfl⟩
              rw [hU] at hx' hFl2 hTs2 hon2 hnx2
              have hU' := Lib.hid hU
              clear hU
              obtain ⟨Am, cm, hum⟩ := hx'.out.own.moves.isSlice
              obtain rfl : u2 = .slice Am U.moves.length cm := hum
              obtain ⟨c0, c1, c2, c3, c4, c5, c6⟩ := hx'.out.cells
              simp only at c0 c1 c2 c3 c4 c5 c6
              have hm8 := hTs2.out.moves8
              have h0r := h0.trans (hS.b.mono hle0)
              have hB0 := hb0.trans (h0r.mono hb0.size)
              have g1 : W'.cell? ⟨B, 0, none⟩ = some (.int .i64 b) := Boxed.cell (show Boxed W' B 3 (.int .i64 b) from hS.held (B, Obj.cells #[.int .i64 b] 3 (0, 0)) (by rw [hLL'.out]; simp))
              have g2 : W'.cell? ⟨z9, 0, none⟩ = some (.int .i64 g) := Boxed.cell (show Boxed W' z9 3 (.int .i64 g) from hS.held (z9, Obj.cells #[.int .i64 g] 3 (0, 0)) (by rw [hLL'.out]; simp))
              obtain ⟨⟨y0, y1⟩, x0, x1, x2, x3, x4, x5, x6, hbz0, hbz1⟩ := hK.out W' (h0r)
              by_cases h8 : U.moves.length = 8
              · have h8i : ((U.moves.length : Int) == 8) = true := by simp [h8]
                have he := Lib.hid (show siX p b g T (pre' ++ [⟨f, hf, hff⟩]) = U by rw [hnx2.out]; exact fill1_full (by omega))
                gi_wp2_with fail
                exact ⟨KeepsFrom.refl _ _, rfl, ⟨⟨_, by rw [he.out]; exact hx'.out⟩, hS⟩, by rw [he.out]; omega⟩
              · have h8i : ((U.moves.length : Int) == 8) = false := beq_eq_false_iff_ne.2 (by omega)
                gi_wp2_with fail
                refine ⟨trivial, CallsIn.inRound l2 (callsIn_wide.2 ((flLacks _ _ _ p U b g (hP'.out _ hB0) (hx'.out.own.view hTs2.out) hTs2.out hb hg1).mono ?_))⟩
                rintro e W5 ⟨rfl, h5⟩
                clear y0 y1 x0 x1 x2 x3 x4 x5 x6 hbz0 hbz1
                clear c0 c1 c2 c3 c4 c5 c6 g1 g2
                have hWn : base ≤ W'.heap.size := Nat.le_trans hbn hS.k.size
                have hT0 : Sides LL base w7.heap.size W' W' := Sides.refl hS.held
                have hT5 := hT0.below hWn h5
                have h05 := h0r.trans (h5.mono h0r.size)
                have hx5 := Lib.hid (hx'.out.below h5)
                clear h5 hT0 hx' hB0
                have hB5 := hb0.trans (h05.mono hb0.size)
                obtain ⟨c0, c1, c2, c3, c4, c5, c6⟩ := hx5.out.cells
                simp only at c0 c1 c2 c3 c4 c5 c6
                have g1 : W5.cell? ⟨B, 0, none⟩ = some (.int .i64 b) := Boxed.cell (show Boxed W5 B 3 (.int .i64 b) from hT5.held (B, Obj.cells #[.int .i64 b] 3 (0, 0)) (by rw [hLL'.out]; simp))
                have g2 : W5.cell? ⟨z9, 0, none⟩ = some (.int .i64 g) := Boxed.cell (show Boxed W5 z9 3 (.int .i64 g) from hT5.held (z9, Obj.cells #[.int .i64 g] 3 (0, 0)) (by rw [hLL'.out]; simp))
                have g3 : W5.cell? ⟨z9 + 1, 0, none⟩ = some (.int .i64 (intAt p.sizes g)) := Boxed.cell (show Boxed W5 (z9 + 1) 3 (.int .i64 (intAt p.sizes g)) from hT5.held (z9 + 1, Obj.cells #[.int .i64 (intAt p.sizes g)] 3 (0, 0)) (by rw [hLL'.out]; simp))
                have lbx5 := hx5.out.lt
                have lB5 : B < W5.heap.size := hT5.held.lt (B, Obj.cells #[.int .i64 b] 3 (0, 0)) (by rw [hLL'.out]; simp)
                have l95 : z9 < W5.heap.size := hT5.held.lt (z9, Obj.cells #[.int .i64 g] 3 (0, 0)) (by rw [hLL'.out]; simp)
                have l955 : z9 + 1 < W5.heap.size := hT5.held.lt (z9 + 1, Obj.cells #[.int .i64 (intAt p.sizes g)] 3 (0, 0)) (by rw [hLL'.out]; simp)
                obtain ⟨⟨y0, y1⟩, x0, x1, x2, x3, x4, x5, x6, hbz0, hbz1⟩ := hK.out W5 (h05)
                have q1 := fun o d os => cells_wld (w := W5) (b := bx) lbx5 o d os
                have q2 := fun o d os => cells_wld (w := W5) (b := B) lB5 o d os
                have q3 := fun o d os => cells_wld (w := W5) (b := z9) l95 o d os
                have q4 := fun o d os => cells_wld (w := W5) (b := z9 + 1) l955 o d os
                have q5 := fun o d os => cells_wld (w := W5) (b := w.heap.size) hbz1 o d os
                have hV2 := Lib.hid (fun d os => (hx5.out.own.view hTs2.out).up (below_wld W5 d os) (below_wld W5 d os).size)
                have hP2 := Lib.hid (fun d os => hP'.out _ (hB5.trans ((below_wld W5 d os).mono hB5.size)))
                have v1 := hTs2.out.cell hb hg1
                have v2 := coming_range hTs2.out b g
                have v3 : 0 ≤ (p.bin b).high ∧ (p.bin b).high ≤ 200 := (right_bin hsn.out.plan hb).2.2
                have v4 := right_size hsn.out.plan hg1
                have hz : (intAt p.sizes g == 0) = false := beq_eq_false_iff_ne.2 (by omega)
                have hbb : 0 ≤ (b : Int) ∧ (b : Int) < p.bins.length := by omega
                have hgg : 0 ≤ (g : Int) ∧ (g : Int) < p.sizes.length := by omega
                have hff0 : 0 ≤ (f : Int) ∧ (f : Int) < p.bins.length := by omega
                gi_wp2_with fail
                refine wpIn_region_wld (by kernel_rfl) (by kernel_rfl) (by kernel_rfl) ?_
                repeat (go_big_quiet_step (first | (go_at_call 13; refine calls_wld (sLeft _ _ p U f g (hV2.out _ _) hTs2.out hff0 hgg)) | (go_at_call 14; refine calls_wld (sRoom _ _ _ p U b (hP2.out _ _) (hV2.out _ _) hTs2.out hbb))))
                refine wpQuiet_nil ?_
                intro W6 hw6
                have hb6 := below_of_cls hw6
                clear hw6
                have hneed : (p.bin b).high - (cell U.on b g + coming U b g) = (p.bin b).high - cell U.on b g - coming U b g := by omega
                rw [fill_wrap hTs2.out hb, hneed, fillN_if]
                clear hneed
                have hT6 := hT5.below hWn hb6
                have h06 := h05.trans (hb6.mono h05.size)
                have hx6 := Lib.hid (hx5.out.below hb6)
                clear y0 y1 x0 x1 x2 x3 x4 x5 x6 hbz0 hbz1
                clear q1 q2 q3 q4 q5 hV2 hP2 c0 c1 c2 c3 c4 c5 c6 g1 g2 g3 hz hb6 hx5 hT5 h05 hB5 lbx5 lB5 l95 l955
                have hKp : ∀ W9, Sides LL base w7.heap.size W' W9 → KeepsFrom w4.heap.size W' W9 ∧ KpB base (z3 + 1) W' W9 := fun W9 h9 =>
                  ⟨KeepsFrom.weak h9.k (by omega), h9.b, (Boxed.cell (show Boxed W9 (z3 + 1) 4 (.bool false) from h9.held (z3 + 1, Obj.cells #[.bool false] 4 (0, 0)) (by rw [hLL'.out]; simp))).trans (Boxed.cell (show Boxed W' (z3 + 1) 4 (.bool false) from hS.held (z3 + 1, Obj.cells #[.bool false] 4 (0, 0)) (by rw [hLL'.out]; simp))).symm⟩
                have hKp' := Lib.hid hKp
                clear hKp
                by_cases hpos : 0 < fillN p U b g f
                · have hsm := Lib.hid (show siX p b g T (pre' ++ [⟨f, hf, hff⟩]) = addMove U ⟨g, f, b, fillN p U b g f⟩ by rw [hnx2.out]; exact fill1_some (by omega) hpos)
                  obtain ⟨N, hN⟩ : ∃ N, fillN p U b g f = N := ⟨_, rfl⟩
                  rw [hN] at hsm hpos
                  rw [hN]
                  clear hN
                  have hmo := Lib.hid hx6.out.own.moves
                  have c3 : W6.cell? ⟨bx, 3, none⟩ = some (.slice Am U.moves.length cm) := hx6.out.cells.2.2.2.1
                  have g1 : W6.cell? ⟨B, 0, none⟩ = some (.int .i64 b) := Boxed.cell (show Boxed W6 B 3 (.int .i64 b) from hT6.held (B, Obj.cells #[.int .i64 b] 3 (0, 0)) (by rw [hLL'.out]; simp))
                  have g2 : W6.cell? ⟨z9, 0, none⟩ = some (.int .i64 g) := Boxed.cell (show Boxed W6 z9 3 (.int .i64 g) from hT6.held (z9, Obj.cells #[.int .i64 g] 3 (0, 0)) (by rw [hLL'.out]; simp))
                  have lbx6 := hx6.out.lt
                  have hbsz : base ≤ W6.heap.size := by omega
                  gi_wp2_with (refine wpListIn_push _ rfl (.tmp 76) (.tmp 82) 29 42 rfl base _ 4 32 Try.underlying29 infoMove rfl (by decide) (by decide) _ U.moves ⟨g, f, b, N⟩ rfl (hmo.out.alloc _) ⟨W6.heap.size, 0, none⟩ 1 rfl rfl (cells_new _ _ _) (oneMove _) (by omega) (by simp; omega) ?_; refine Hid.out ?_)
                  unfold Hid
                  intro v' w9 ho9 hg9 hb9
                  obtain ⟨A9, c9, hv9⟩ := ho9.isSlice
                  rw [List.length_append, List.length_singleton] at hv9
                  subst hv9
                  have hal : Below W6.heap.size W6 (W6.alloc (.cells #[.int .i64 g, .int .i64 f, .int .i64 b, .int .i64 N] 42)) := (Below.refl _ W6).alloc (Nat.le_refl _) _
                  have hxa := hx6.out.below hal
                  have hTa := hT6.below hWn hal
                  have hO9 := hxa.own.wroteMoves hg9 ho9
                  have hbrow : some bx ≠ (Value.slice Am U.moves.length cm).ownBlock := fun he => by
                    rcases hxa.own.moves.notBox hxa.boxAt.blk (by decide) with h | h
                    · simp only at h; rw [h] at he; cases he
                    · exact h he.symm
                  have hT9 := hTa.grown hWn hg9 (fun r e => ⟨(World.ownsRow.lt hxa.own.moves r e).1, hxa.rowCells e.symm, fun x hx he => HeldDs.not_row hTa.held (by
                    intro x hx cs sp e2
                    rw [hLL'.out] at hx
                    simp at hx
                    rcases hx with rfl | rfl | rfl | rfl | rfl <;> simp at e2) hxa.own.moves x hx (by rw [he]; exact e.symm)⟩)
                  have hb9' := Lib.hid (hxa.boxAt.grown hg9 hbrow)
                  have hO9' := Lib.hid hO9
                  have hLb : ∀ x ∈ LL, x.1 ≠ bx := by
                    intro x hx
                    rw [hLL'.out] at hx
                    simp at hx
                    rcases hx with rfl | rfl | rfl | rfl | rfl <;> simp only <;> omega
                  clear c3 hxa hO9 hbrow hg9 ho9 hmo hx6 hb9 hTa hal g1 g2
                  gi_wp2_with (refine wpIn_st_moves rfl (.tmp 84) (.tmp 83) rfl rfl A9 (U.moves.length + 1) c9 (V := ⟨.slice (some ⟨gon, 0, none⟩) s.on.length con, k1, k2, .slice Am U.moves.length cm, k4, k5, k6, k7, k8⟩) (V' := ⟨.slice (some ⟨gon, 0, none⟩) s.on.length con, k1, k2, .slice A9 (U.moves.length + 1) c9, k4, k5, k6, k7, k8⟩) (s' := { U with moves := U.moves ++ [⟨g, f, b, N⟩] }) (cs := []) (b := bx) (by rw [List.append_nil]; exact hb9'.out.blk) hO9'.out boxT rfl rfl rfl (fun w10 hx10 hst10 => ?_); refine Hid.out ?_)
                  unfold Hid
                  have hT10 := hT9.step hWn hst10 (by omega) ⟨_, _, _, hb9'.out.blk⟩ hLb
                  have hx10' := Lib.hid (show Bx w10 base bx 31 [] ⟨.slice (some ⟨gon, 0, none⟩) s.on.length con, k1, k2, .slice A9 (U.moves.length + 1) c9, k4, k5, k6, k7, k8⟩ (siX p b g T (pre' ++ [⟨f, hf, hff⟩])) by rw [hsm.out]; exact hx10)
                  clear hx10 hst10 hb9' hO9' hT9
                  gi_wp2_with fail
                  have := hKp'.out _ hT10
                  exact ⟨this.1, this.2, ⟨_, hx10'.out⟩, hS.trans hT10⟩
                · have he := Lib.hid (show siX p b g T (pre' ++ [⟨f, hf, hff⟩]) = U by rw [hnx2.out]; exact fill1_none (by omega) hpos)
                  gi_wp2_with fail
                  have := hKp'.out _ hT6
                  exact ⟨this.1, this.2, ⟨_, by rw [he.out]; exact hx6.out⟩, hS.trans hT6⟩
            case jdone =>
              intro W' hI
              obtain ⟨⟨u, hx⟩, hS⟩ := hI
              have hx5 := Lib.hid (show Bx W' base bx 31 [] ⟨.slice (some ⟨gon, 0, none⟩) s.on.length con, k1, k2, u, k4, k5, k6, k7, k8⟩ (gdX p b (stX p s pre) (g + 1)) by rw [hnx.out, hsX.out]; exact hx)
              clear hx
              gi_wp2_with fail
              go_roundw
              case rel => exact ⟨g + 1, u, by omega, by go_num, hx5.out, ⟨fun y hy => hS.held y (by rw [hLL'.out]; simp at hy ⊢; rcases hy with h | h <;> simp [h]), hS.b, hS.k⟩⟩
              case measure => simp [intOf]; omega
            case jstop =>
              intro c k W' hk hI
              obtain ⟨rfl, ⟨⟨u, hx⟩, hS⟩, h8⟩ := hI
              have hfull := siX_full hk h8
              have he1 : gdX p b (stX p s pre) (g + 1) = siX p b g T (kindsX p false k) := by rw [hnx.out, hsX.out, hfull]
              have he2 : stX p s (pre ++ [⟨b, hb, hfr⟩]) = siX p b g T (kindsX p false k) := by
                rw [stX_snoc, ← he1]
                exact gdX_full (by rw [he1]; exact h8) p.sizes.length (by omega)
              rw [← he2] at hx h8
              clear hfull he1 he2
              refine wpIn_exit ?_
              gi_wp2_with fail
              exact ⟨hS.k, rfl, ⟨⟨u, hx⟩, (fun y hy => hS.held y (by rw [hLL'.out]; simp at hy ⊢; simp [hy])), h0.trans (hS.b.mono hle0)⟩, h8⟩
          · rw [decide_eq_false hlk]
            have hx4 := Lib.hid (show Bx W3 base bx 31 [] ⟨.slice (some ⟨gon, 0, none⟩) s.on.length con, k1, k2, u, k4, k5, k6, k7, k8⟩ (gdX p b (stX p s pre) (g + 1)) by rw [hnx.out]; unfold fillGood; rw [if_neg hlk]; exact hx3.out)
            clear hx3 hlk
            gi_wp2_with fail
            go_roundw
            case rel => exact ⟨g + 1, u, by omega, by go_num, hx4.out, ⟨fun y hy => hS3.held y (by simp at hy ⊢; rcases hy with h | h <;> simp [h]), hS3.b, hS3.k⟩⟩
            case measure => simp [intOf]; omega
        · obtain rfl : g = p.sizes.length := by omega
          gi_wp2_with fail
          refine ⟨hS.k, ⟨hS.b, ?_⟩, ⟨?_, ?_, h0r⟩⟩
          · exact (Boxed.cell (show Boxed wr (z6 + 1) 4 (.bool true) from hS.held _ (List.mem_cons_self ..))).trans (Boxed.cell (show Boxed W (z6 + 1) 4 (.bool true) from hHo _ (List.mem_cons_self ..))).symm
          · exact ⟨u, by rw [stX_snoc]; exact hx'.out⟩
          · intro y hy
            exact hS.held y (by simp at hy ⊢; simp [hy])
    case hdone =>
      intro D W hD hI hWd
      rw [stX_all] at hI
      obtain ⟨⟨u, hx⟩, _, h0⟩ := hI
      have hx' := Lib.hid hx
      have hB9 := hb0.trans (h0.mono hb0.size)
      have hbx9 := hR.out _ h0
      have hone9 := hx.own.one
      obtain ⟨q0, q1, q2, q3, q4, q5, q6⟩ := hx.cells
      simp only at q0 q1 q2 q3 q4 q5 q6
      clear hx
      go_wp2_with (refine wpList_store_state rfl (.tmp 4) (.tmp 86) rfl rfl (w.heap.size + 1 + 1) nilSV (⟨.slice (some ⟨gon, 0, none⟩) s.on.length con, k1, k2, u, k4, k5, k6, k7, k8⟩ : SV) hbx9 rfl rfl hone9 (fun w9 hbox9 hg9 => ?_))
      have hO9 := hx'.out.own.keptBy hg9 hbx9 (by decide) (by decide) (by decide) (by decide) (by decide) (by decide)
      obtain ⟨p0, p1, p2, p3, p4, p5, p6⟩ := BoxAt.cells hbox9
      have hfin9 : Below w.heap.size w w9 := Below.grown hB9 hg9 (Below.size hB9) (fun k hk => by injection hk with hk; omega)
      have hsE' := hsE.out
      have hs07 := h07.size
      have hD9 : w9.heap[D]? = some (.deferred (some [])) := (hg9.block D (Array.getElem?_eq_some_iff.1 hWd).1 (by intro he; injection he with he; omega)).trans hWd
      clear q0 q1 q2 q3 q4 q5 q6
      go_wp2_with fail
      have hgD := grownBy_putObj' w9 D (.deferred none)
      have hbox10 := BoxAt.grown hbox9 hgD (by intro he; injection he with he; omega)
      have hO10 := hO9.noncell hgD (fun r e => by cases e; exact ⟨_, hD9, rfl⟩)
      have hfin10 : Below w.heap.size w (w9.putObj D (.deferred none)) := Below.grown hfin9 hgD (Below.size hfin9) (fun k hk => by injection hk with hk; omega)
      clear p0 p1 p2 p3 p4 p5 p6
      obtain ⟨p0, p1, p2, p3, p4, p5, p6⟩ := BoxAt.cells hbox10
      refine ⟨by simp, .inl ⟨_, _, rfl, run_takeDeferred hD9, ?_⟩⟩
      exact ⟨.tuple #[SV.val (⟨.slice (some ⟨gon, 0, none⟩) s.on.length con, k1, k2, u, k4, k5, k6, k7, k8⟩ : SV), .int .i64 0], by simp [results, Try.results4, go_sem, SV.val, p0, p1, p2, p3, p4, p5, p6], actOk hfin.out (hO10.from_ hle) hfin10⟩
    case hstop =>
      intro D c k W hD hk hI hWd
      obtain ⟨rfl, hI, h8⟩ := hI
      rw [← stX_full hk h8] at hI
      obtain ⟨⟨u, hx⟩, _, h0⟩ := hI
      refine wpIn_exit ?_
      have hx' := Lib.hid hx
      have hB9 := hb0.trans (h0.mono hb0.size)
      have hbx9 := hR.out _ h0
      have hone9 := hx.own.one
      obtain ⟨q0, q1, q2, q3, q4, q5, q6⟩ := hx.cells
      simp only at q0 q1 q2 q3 q4 q5 q6
      clear hx
      go_wp2_with (refine wpList_store_state rfl (.tmp 4) (.tmp 86) rfl rfl (w.heap.size + 1 + 1) nilSV (⟨.slice (some ⟨gon, 0, none⟩) s.on.length con, k1, k2, u, k4, k5, k6, k7, k8⟩ : SV) hbx9 rfl rfl hone9 (fun w9 hbox9 hg9 => ?_))
      have hO9 := hx'.out.own.keptBy hg9 hbx9 (by decide) (by decide) (by decide) (by decide) (by decide) (by decide)
      obtain ⟨p0, p1, p2, p3, p4, p5, p6⟩ := BoxAt.cells hbox9
      have hfin9 : Below w.heap.size w w9 := Below.grown hB9 hg9 (Below.size hB9) (fun k hk => by injection hk with hk; omega)
      have hsE' := hsE.out
      have hs07 := h07.size
      have hD9 : w9.heap[D]? = some (.deferred (some [])) := (hg9.block D (Array.getElem?_eq_some_iff.1 hWd).1 (by intro he; injection he with he; omega)).trans hWd
      clear q0 q1 q2 q3 q4 q5 q6
      go_wp2_with fail
      have hgD := grownBy_putObj' w9 D (.deferred none)
      have hbox10 := BoxAt.grown hbox9 hgD (by intro he; injection he with he; omega)
      have hO10 := hO9.noncell hgD (fun r e => by cases e; exact ⟨_, hD9, rfl⟩)
      have hfin10 : Below w.heap.size w (w9.putObj D (.deferred none)) := Below.grown hfin9 hgD (Below.size hfin9) (fun k hk => by injection hk with hk; omega)
      clear p0 p1 p2 p3 p4 p5 p6
      obtain ⟨p0, p1, p2, p3, p4, p5, p6⟩ := BoxAt.cells hbox10
      refine ⟨by simp, .inl ⟨_, _, rfl, run_takeDeferred hD9, ?_⟩⟩
      exact ⟨.tuple #[SV.val (⟨.slice (some ⟨gon, 0, none⟩) s.on.length con, k1, k2, u, k4, k5, k6, k7, k8⟩ : SV), .int .i64 0], by simp [results, Try.results4, go_sem, SV.val, p0, p1, p2, p3, p4, p5, p6], actOk hfin.out (hO10.from_ hle) hfin10⟩
  · have hne : (checkState p s != 0) = true := by simpa using hc
    have hfin := Lib.hid (fill_bad hc)
    clear hc
    have hbx9 := hR.out _ h1
    go_wp2_with (refine wpList_store_state rfl (.tmp 4) (.tmp 21) rfl rfl (w.heap.size + 1 + 1) nilSV nilSV hbx9 rfl rfl rfl (fun w9 hbox9 hg9 => ?_))
    obtain ⟨p0, p1, p2, p3, p4, p5, p6⟩ := BoxAt.cells hbox9
    have hfin9 : Below w.heap.size w w9 := Below.grown hB1 hg9 (Below.size hB1) (fun k hk => by injection hk with hk; omega)
    go_wp2_with fail
    rw [Exit.noGoto_ret]
    refine ⟨.tuple #[nilSV.val, .int .i64 (checkState p s)], by simp [results, Try.results4, go_sem, SV.val, p0, p1, p2, p3, p4, p5, p6], actErr hfin.out hfin9⟩
end Wh
