/- Texts of the claim, joined: FillD, FillS. -/
import Derived.BigQuiet
import Derived.WalkMore
import Derived.Test.YtfhfkijmebhgmaaGreatQ24
import Derived.Test.YtfhfkijmebhgmaaGreatQ13
namespace Wh
open Go Go.RowKit Go.Shelf Go.Proofs
attribute [local go_sem] run_indexAt_letter evL_tmp evL_const evL_func

theorem Filled.on {p : Plan} {s t : State} (h : Filled p s t) : t.on = s.on := by rw [h.rest]

theorem tdiv_abs {x z N : Int} (h : -N ≤ x ∧ x ≤ N) : -N ≤ x.tdiv z ∧ x.tdiv z ≤ N := by
  have h1 : (x.tdiv z).natAbs ≤ x.natAbs := by rw [Int.natAbs_tdiv]; exact Nat.div_le_self _ _
  omega
theorem fill_wrap {p : Plan} {t : State} {b g : Nat} (hs : Sane p t) (hb : b < p.bins.length) : wrap64 ((free p t b).tdiv (intAt p.sizes g)) = (free p t b).tdiv (intAt p.sizes g) := by
  have h1 := freeTo_range hs (b := b) ⟨by omega, by omega⟩ (Nat.le_refl p.sizes.length)
  rw [freeTo_all] at h1
  have h2 := tdiv_abs (x := free p t b) (z := intAt p.sizes g) (N := 60000) (by omega)
  exact IntWalk.wrap64_in _ (by omega)
theorem fillN_if (p : Plan) (t : State) (b g f : Nat) : (if (free p t b).tdiv (intAt p.sizes g) < if avail t f g < (p.bin b).high - cell t.on b g - coming t b g then avail t f g else (p.bin b).high - cell t.on b g - coming t b g then (free p t b).tdiv (intAt p.sizes g)
    else if avail t f g < (p.bin b).high - cell t.on b g - coming t b g then avail t f g else (p.bin b).high - cell t.on b g - coming t b g) = fillN p t b g f := by
  unfold fillN
  generalize (free p t b).tdiv (intAt p.sizes g) = x
  generalize avail t f g = y
  generalize (p.bin b).high - cell t.on b g - coming t b g = z
  rw [Int.min_def, Int.min_def]
  split <;> split <;> split <;> (try split) <;> omega

end Wh
namespace Wh
open Go Go.RowKit Go.Shelf Go.Proofs
attribute [local go_sem] run_indexAt_letter evL_tmp evL_const evL_func
attribute [local go_sem] Oper.semAt_some

section
variable {p : Plan} {s : State}
/-- Filled for the bins of a list. -/
def stX (p : Plan) (s : State) (pre : List (BinK p true)) : State := (pre.map Subtype.val).foldl (fun t b => (List.range p.sizes.length).foldl (fillGood p b) t) s
theorem stX_snoc (pre : List (BinK p true)) (x : BinK p true) : stX p s (pre ++ [x]) = (List.range p.sizes.length).foldl (fillGood p x.1) (stX p s pre) := by
  unfold stX
  rw [List.map_append, List.foldl_append]
  rfl
theorem stX_all : stX p s (kindsX p true p.bins.length) = fillS p s := by
  unfold stX
  rw [kindsX_val p true _ (Nat.le_refl _)]
  rfl
theorem stX_full {k : Nat} (hk : k ≤ p.bins.length) (h : 8 ≤ (stX p s (kindsX p true k)).moves.length) : fillS p s = stX p s (kindsX p true k) := by
  obtain ⟨r, hr⟩ := kindsX_pre p true p.bins.length k hk
  rw [← stX_all, hr]
  unfold stX at h ⊢
  rw [List.map_append, List.foldl_append]
  exact fillBins_full h p _
theorem stX_filled (h : checkState p s = 0) (pre : List (BinK p true)) : Filled p s (stX p s pre) :=
  foldl_inv (P := Filled p s) (fun t b hb ht => by
    obtain ⟨x, _, rfl⟩ := List.mem_map.1 hb
    exact filled_bin ht x.2.1 x.2.2) (filled_self h)
/-- .. and the goods ahead of g. -/
def gdX (p : Plan) (b : Nat) (t : State) (g : Nat) : State := (List.range g).foldl (fillGood p b) t
theorem gdX_succ (b : Nat) (t : State) (g : Nat) : gdX p b t (g + 1) = fillGood p b (gdX p b t g) g := by
  unfold gdX
  rw [List.range_succ, List.foldl_append]
  rfl
theorem gdX_full {b : Nat} {t : State} {g : Nat} (h : 8 ≤ (gdX p b t g).moves.length) : ∀ n, g ≤ n → gdX p b t n = gdX p b t g
  | 0, hn => by
    obtain rfl : g = 0 := by omega
    rfl
  | n + 1, hn => by
    by_cases he : g = n + 1
    · rw [he]
    · rw [gdX_succ, gdX_full h n (by omega), fillGood_full h]
theorem gdX_filled {t : State} {b : Nat} (h : Filled p s t) (hb : b < p.bins.length) (hf : (p.bin b).front = true) : ∀ g, g ≤ p.sizes.length → Filled p s (gdX p b t g)
  | 0, _ => h
  | g + 1, hg => by
    rw [gdX_succ]
    exact filled_good (gdX_filled h hb hf g (by omega)) hb (by omega) hf
/-- .. and out of the bins of a list. -/
def siX (p : Plan) (b g : Nat) (t : State) (pre : List (BinK p false)) : State := (pre.map Subtype.val).foldl (fun t f => fill1 p t b g f) t
theorem siX_snoc (b g : Nat) (t : State) (pre : List (BinK p false)) (x : BinK p false) : siX p b g t (pre ++ [x]) = fill1 p (siX p b g t pre) b g x.1 := by
  unfold siX
  rw [List.map_append, List.foldl_append]
  rfl
theorem siX_all {b g : Nat} {t : State} (h : cell t.on b g + coming t b g < (p.bin b).low) : fillGood p b t g = siX p b g t (kindsX p false p.bins.length) := by
  unfold siX fillGood
  rw [kindsX_val p false _ (Nat.le_refl _), if_pos h]
  rfl
theorem siX_full {b g k : Nat} {t : State} (hk : k ≤ p.bins.length) (h : 8 ≤ (siX p b g t (kindsX p false k)).moves.length) : siX p b g t (kindsX p false p.bins.length) = siX p b g t (kindsX p false k) := by
  obtain ⟨r, hr⟩ := kindsX_pre p false p.bins.length k hk
  rw [hr]
  unfold siX at h ⊢
  rw [List.map_append, List.foldl_append]
  generalize (kindsX p false k).map Subtype.val = l at h ⊢
  generalize l.foldl (fun t f => fill1 p t b g f) t = u at h ⊢
  clear hr
  induction r with
  | nil => rfl
  | cons x r ih =>
    rw [List.map_cons, List.foldl_cons, fill1_full h]
    exact ih
theorem siX_filled {t : State} {b g : Nat} (h : Filled p s t) (hb : b < p.bins.length) (hf : (p.bin b).front = true) (hg : g < p.sizes.length) (pre : List (BinK p false)) : Filled p s (siX p b g t pre) :=
  foldl_inv (P := Filled p s) (fun t f hm ht => by
    obtain ⟨x, _, rfl⟩ := List.mem_map.1 hm
    exact filled_one ht hb hg x.2.1 hf x.2.2) h
end

/-- What a loop over bins keeps: the state in its box, blocks that lie as they lay, all that is old. -/
def keepI (base bx : Nat) (V : Value → SV) (L : List (Nat × Obj)) (W0 : World) (T : State) (W : World) : Prop :=
  (∃ u, Bx W base bx 31 [] (V u) T) ∧ HeldDs L W ∧ Below W0.heap.size W0 W
theorem keepI_own {β : Type} {base bx : Nat} {V : Value → SV} {L : List (Nat × Obj)} {W0 : World} (T : β → State) {B : Nat} (hL : ∀ x ∈ L, x.1 < B) (hB : W0.heap.size ≤ B) : OwnFrom B (fun s W => keepI base bx V L W0 (T s) W) :=
  fun s X Y row hs hg hr => by
    obtain ⟨⟨u, h1⟩, h2, h3⟩ := hs
    exact ⟨⟨u, h1.noncell hg fun r e => (hr r e).2⟩, HeldDs.from_ hL s X Y row h2 hg hr, h3.grown hg h3.size (fun k hk => by have := (hr k hk).1; omega)⟩



theorem HeldDs.below {L : List (Nat × Obj)} {W W' : World} (h : HeldDs L W) (hb : Below W.heap.size W W') : HeldDs L W' := fun x hx => (hb.block x.1 (h.lt x hx)).trans (h x hx)
theorem KeepsFrom.weak {B B' : Nat} {W W' : World} (h : KeepsFrom B W W') (hB : B ≤ B') : KeepsFrom B' W W' := ⟨h.size, fun k o hk ho hc => h.same k o (Nat.le_trans hB hk) ho hc⟩
/-- What a round leaves: boxes, all below 'base', all that is no cells from B7 on. -/
structure Sides (L : List (Nat × Obj)) (base B7 : Nat) (Wo W : World) : Prop where
  held : HeldDs L W
  b : Below base Wo W
  k : KeepsFrom B7 Wo W
namespace Sides
variable {L : List (Nat × Obj)} {base B7 : Nat} {Wo W W' : World}
theorem refl (h : HeldDs L W) : Sides L base B7 W W := ⟨h, Below.refl _ _, KeepsFrom.refl _ _⟩
theorem trans {L' : List (Nat × Obj)} (h : Sides L base B7 Wo W) (h' : Sides L' base B7 W W') : Sides L' base B7 Wo W' := ⟨h'.held, h.b.trans h'.b, h.k.trans h'.k⟩
theorem below (h : Sides L base B7 Wo W) (hn : base ≤ Wo.heap.size) (hb : Below W.heap.size W W') : Sides L base B7 Wo W' := ⟨h.held.below hb, h.b.trans (hb.mono (Nat.le_trans hn h.k.size)), h.k.trans (keeps_below hb)⟩
theorem grown (h : Sides L base B7 Wo W) (hn : base ≤ Wo.heap.size) {row : Option Nat} (hg : W.grownBy W' row) (hr : ∀ r, row = some r → base ≤ r ∧ (∃ cs t sp, W.heap[r]? = some (.cells cs t sp)) ∧ ∀ x ∈ L, x.1 ≠ r) : Sides L base B7 Wo W' :=
  ⟨h.held.grown hg fun x hx he => (hr _ he.symm).2.2 x hx rfl, h.b.trans ((Below.refl _ _).grown hg (Nat.le_trans hn h.k.size) fun r e => (hr r e).1), h.k.trans (keeps_cells hg fun r e => (hr r e).2.1)⟩
theorem step (h : Sides L base B7 Wo W) (hn : base ≤ Wo.heap.size) {b : Nat} (hs : Step (· = b) W W') (hb : base ≤ b) (hc : ∃ cs t sp, W.heap[b]? = some (.cells cs t sp)) (hL : ∀ x ∈ L, x.1 ≠ b) : Sides L base B7 Wo W' := by
  refine ⟨fun x hx => hs.heap (h.held x hx) (hL x hx), h.b.trans (hs.below (fun q hq => by omega) (Nat.le_trans hn h.k.size)), h.k.trans ⟨hs.size, fun k o _ hk ho => hs.heap hk fun he => ?_⟩⟩
  subst he
  obtain ⟨cs, t, sp, hc⟩ := hc
  rw [hc] at hk
  injection hk with hk
  subst hk
  cases ho
theorem own {β : Type} {B : Nat} (hL : ∀ x ∈ L, x.1 < B) (hn : base ≤ Wo.heap.size) (hB : Wo.heap.size ≤ B) : OwnFrom B (fun (_ : β) W => Sides L base B7 Wo W) := fun s X Y row hs hg hr =>
  ⟨HeldDs.from_ hL s X Y row hs.held hg hr, ownFrom_below hn (Nat.le_trans hn hB) s X Y row hs.b hg hr, ownFrom_keepsFrom hB s X Y row hs.k hg hr⟩
end Sides
/-- .. with the state in its box. -/
def keepJ (base bx : Nat) (V : Value → SV) (L : List (Nat × Obj)) (B7 : Nat) (Wo : World) (T : State) (W : World) : Prop :=
  (∃ u, Bx W base bx 31 [] (V u) T) ∧ Sides L base B7 Wo W
theorem keepJ_own {β : Type} {base bx B7 : Nat} {V : Value → SV} {L : List (Nat × Obj)} {Wo : World} (T : β → State) {B : Nat} (hL : ∀ x ∈ L, x.1 < B) (hn : base ≤ Wo.heap.size) (hB : Wo.heap.size ≤ B) : OwnFrom B (fun s W => keepJ base bx V L B7 Wo (T s) W) :=
  fun s X Y row hs hg hr => by
    obtain ⟨⟨u, h1⟩, h2⟩ := hs
    exact ⟨⟨u, h1.noncell hg fun r e => (hr r e).2⟩, Sides.own hL hn hB s X Y row h2 hg hr⟩
/-- One element more, in a round. -/
theorem wpListIn_push {P : Program} (w : World) {F : Fence} {n : Nat} {α : Type} {enc : α → List Value} {ops : Array Oper} {rest : List Oper} {o : Oper} {a : Act} {Q : Exit → Act → World → Prop} (hgd : o.guard = none) (s x : Operand) (t e : TypeId)
    (ho : o.op = .call { callee := .builtin .append, args := #[s, x], argTypes := #[t, t] }) (base : Nat) (z : Value) (size bytes : Nat) (ht : P.underlying t = some (.slice e)) (hi : Elem P e z size bytes)
    (hzs : z.cells.size = size) (hsz : 0 < size) (hby : bytes ≤ 64) (v : Value) (l : List α) (y : α) (hs : a.eval s = v) (hown : Own enc size e w base v l)
    (ad : Addr) (c : Nat) (hx : a.eval x = .slice (some ad) 1 c) (hl : (enc y).length = size) (hnews : ∀ j u, (enc y)[j]? = some u → w.cell? (ad.add j) = some u) (h1 : ∀ u ∈ enc y, u.oneCell' = true)
    (hn : l.length ≤ 1000000) (hbase : base ≤ w.heap.size)
    (h : ∀ v' w', Own enc size e w' base v' (l ++ [y]) → w.grownBy w' v.ownBlock → Below base w w' → wpListIn F n P ops Q rest (a.put o.dst v') w') :
    wpListIn F n P ops Q (o :: rest) a w := by
  obtain ⟨i, hi, hz, hsize, hbytes⟩ := hi
  have hb : (l.length + 1) * bytes ≤ 140737488355328 := Nat.le_trans (Nat.mul_le_mul (show l.length + 1 ≤ 1000001 by omega) hby) (by decide)
  refine wpListIn_append_own w hgd s x t ho base e i z size bytes ht hi hz hsize hbytes hzs hsz v l.length _ hs hown ad 1 c (enc y) hx (by rw [hl, Nat.one_mul]) hnews h1 (by unfold maxLen; omega) hb hbase ?_
  intro v' w' h2 h3 _
  refine h v' w' ?_ h3 ((Below.refl _ _).grown h3 hbase fun k hk => (World.ownsRow.lt hown k hk).1)
  unfold Own
  rw [List.length_append, List.flatMap_append]
  simpa using h2
end Wh
