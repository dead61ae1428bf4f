/- Texts of the claim, joined: PlainS, LogC, LogD. -/
import Derived.Test.YtfhfkijmebhgmaaGreatQ33
import Derived.Test.YtfhfkijmebhgmaaGreatQ18
namespace Wh

def byteAt (t : List Nat) (i : Nat) : Nat := t.getD i 0
def linesOf (t : List Nat) : Nat → List Line
  | 0 => []
  | m + 1 => ⟨byteAt t 0, byteAt t 1, byteAt t 2, byteAt t 3⟩ :: linesOf (t.drop 4) m
/-- How many bytes the act has that a text begins with; 0: there is none. -/
def actLen (t : List Nat) : Nat := if t.length < 6 then 0 else if 3 < byteAt t 5 ∨ t.length < 6 + 4 * byteAt t 5 then 0 else 6 + 4 * byteAt t 5
def actFrom (t : List Nat) : Deed := ⟨byteAt t 0, byteAt t 1, byteAt t 2, byteAt t 3, byteAt t 4, linesOf (t.drop 6) (byteAt t 5)⟩
/-- The acts that a text begins with, n at most, and how many bytes they have. -/
def replay : Nat → List Nat → List Deed × Nat
  | 0, _ => ([], 0)
  | n + 1, t => if actLen t = 0 then ([], 0) else (actFrom t :: (replay n (t.drop (actLen t))).1, actLen t + (replay n (t.drop (actLen t))).2)
def replayE (t : List Nat) : List Deed × Int × Int := if 4096 < t.length then ([], 0, 2) else ((replay 60 t).1, (replay 60 t).2, 0)
def isByte (n : Int) : Bool := within n 0 255
def lineByte (x : Line) : Bool := isByte x.good && isByte x.want && isByte x.got && isByte x.back
def lineBytes (x : Line) : List Nat := [x.good.toNat, x.want.toNat, x.got.toNat, x.back.toNat]
def actBytes (x : Deed) : List Nat := [x.kind.toNat, x.a.toNat, x.b.toNat, x.c.toNat, x.n.toNat, x.lines.length] ++ x.lines.flatMap lineBytes
def allByte (x : Deed) : Bool := isByte x.kind && isByte x.a && isByte x.b && isByte x.c && isByte x.n && x.lines.all lineByte
def writeE (x : Deed) : List Nat × Int := if !(allByte x) then ([], 3) else if 3 < x.lines.length then ([], 2) else (actBytes x, 0)
/-- Acts, one behind the other. -/
def doneOf (p : Plan) : List Deed → State → State
  | [], s => s
  | x :: l, s => doneOf p l (if (act p s x).2 = 0 then (act p s x).1 else s)
def recoverE (p : Plan) (t : List Nat) : State × Int × Int :=
  if checkPlan p ≠ 0 then (dState, 0, checkPlan p) else if (replayE t).2.2 ≠ 0 then (dState, 0, (replayE t).2.2) else (doneOf p (replayE t).1 (begin p), ((replayE t).1.length : Int), 0)

theorem actLen_le (t : List Nat) : actLen t ≤ t.length := by
  unfold actLen
  split
  · omega
  · split <;> omega
theorem actLen_pos {t : List Nat} (h : actLen t ≠ 0) : 6 ≤ actLen t ∧ actLen t = 6 + 4 * byteAt t 5 ∧ byteAt t 5 ≤ 3 := by
  unfold actLen at h ⊢
  split at h
  · exact absurd rfl h
  · rename_i h1
    rw [if_neg h1]
    split at h
    · exact absurd rfl h
    · rename_i h2
      rw [if_neg h2]
      omega
theorem replay_len : ∀ (n : Nat) (t : List Nat), (replay n t).1.length ≤ n ∧ (replay n t).2 ≤ t.length
  | 0, t => ⟨Nat.le_refl _, Nat.zero_le _⟩
  | n + 1, t => by
    rw [replay]
    split
    · exact ⟨Nat.zero_le _, Nat.zero_le _⟩
    · have h1 := replay_len n (t.drop (actLen t))
      have h2 := actLen_le t
      rw [List.length_drop] at h1
      simp only [List.length_cons]
      omega
theorem byteAt_append {a b : List Nat} {i : Nat} (h : i < a.length) : byteAt (a ++ b) i = byteAt a i := by
  unfold byteAt
  simp [List.getD, List.getElem?_append_left h]
theorem actBytes_length (x : Deed) : (actBytes x).length = 6 + 4 * x.lines.length := by
  unfold actBytes
  rw [List.length_append]
  have : ∀ l : List Line, (l.flatMap lineBytes).length = 4 * l.length := fun l => by
    induction l with
    | nil => rfl
    | cons y r ih => rw [List.flatMap_cons, List.length_append, ih, List.length_cons]; simp [lineBytes]; omega
  rw [this]
  rfl
theorem actBytes_five (x : Deed) (r : List Nat) : byteAt (actBytes x ++ r) 5 = x.lines.length := by
  unfold actBytes byteAt
  simp
theorem actLen_bytes {x : Deed} (h : x.lines.length ≤ 3) (r : List Nat) : actLen (actBytes x ++ r) = (actBytes x).length := by
  have h1 := actBytes_length x
  have h2 := actBytes_five x r
  unfold actLen
  rw [List.length_append, h2, if_neg (by omega), if_neg (by omega), h1]
theorem isByte_iff {n : Int} : isByte n = true ↔ 0 ≤ n ∧ n ≤ 255 := within_iff
theorem lines_bytes : ∀ (l : List Line) (r : List Nat), l.all lineByte = true → linesOf (l.flatMap lineBytes ++ r) l.length = l
  | [], _, _ => rfl
  | x :: l, r, h => by
    rw [List.all_cons, Bool.and_eq_true] at h
    obtain ⟨h1, h2⟩ := h
    unfold lineByte at h1
    simp only [Bool.and_eq_true, isByte_iff] at h1
    have e : (x :: l).flatMap lineBytes ++ r = x.good.toNat :: x.want.toNat :: x.got.toNat :: x.back.toNat :: (l.flatMap lineBytes ++ r) := by
      rw [List.flatMap_cons]
      rfl
    rw [e, List.length_cons, linesOf]
    have e2 : (x.good.toNat :: x.want.toNat :: x.got.toNat :: x.back.toNat :: (l.flatMap lineBytes ++ r)).drop 4 = l.flatMap lineBytes ++ r := rfl
    rw [e2, lines_bytes l r h2]
    have e3 : (⟨byteAt (x.good.toNat :: x.want.toNat :: x.got.toNat :: x.back.toNat :: (l.flatMap lineBytes ++ r)) 0, byteAt (x.good.toNat :: x.want.toNat :: x.got.toNat :: x.back.toNat :: (l.flatMap lineBytes ++ r)) 1, byteAt (x.good.toNat :: x.want.toNat :: x.got.toNat :: x.back.toNat :: (l.flatMap lineBytes ++ r)) 2, byteAt (x.good.toNat :: x.want.toNat :: x.got.toNat :: x.back.toNat :: (l.flatMap lineBytes ++ r)) 3⟩ : Line) = x := by
      have : (⟨((x.good.toNat : Nat) : Int), ((x.want.toNat : Nat) : Int), ((x.got.toNat : Nat) : Int), ((x.back.toNat : Nat) : Int)⟩ : Line) = x := by
        cases x
        simp only at h1
        simp only [Line.mk.injEq]
        omega
      exact this
    rw [e3]
theorem actFrom_bytes {x : Deed} (h : allByte x = true) (r : List Nat) : actFrom (actBytes x ++ r) = x := by
  unfold allByte at h
  simp only [Bool.and_eq_true, isByte_iff] at h
  have e1 : (actBytes x ++ r).drop 6 = x.lines.flatMap lineBytes ++ r := by
    unfold actBytes
    rw [List.append_assoc]
    rfl
  unfold actFrom
  rw [e1, actBytes_five, lines_bytes _ _ h.2]
  have e2 : (⟨((x.kind.toNat : Nat) : Int), ((x.a.toNat : Nat) : Int), ((x.b.toNat : Nat) : Int), ((x.c.toNat : Nat) : Int), ((x.n.toNat : Nat) : Int), x.lines⟩ : Deed) = x := by
    cases x
    simp only at h
    simp only [Deed.mk.injEq, and_true]
    omega
  exact e2
theorem writeE_zero {x : Deed} (h : (writeE x).2 = 0) : allByte x = true ∧ x.lines.length ≤ 3 ∧ (writeE x).1 = actBytes x := by
  unfold writeE at h ⊢
  cases h1 : allByte x
  · rw [h1] at h; simp at h
  · rw [h1] at h
    simp only [Bool.not_true, Bool.false_eq_true, if_false] at h ⊢
    split at h
    · simp at h
    · rename_i h2
      rw [if_neg h2]
      exact ⟨trivial, by omega, rfl⟩
def ok (x : Deed) : Prop := allByte x = true ∧ x.lines.length ≤ 3
theorem replay_more : ∀ (n : Nat) (t b : List Nat) (x : Deed), ok x → b = actBytes x → (replay n t).2 = t.length → (replay n t).1.length < n → replay n (t ++ b) = ((replay n t).1 ++ [x], t.length + b.length)
  | 0, _, _, _, _, _, _, h => absurd h (Nat.not_lt_zero _)
  | n + 1, t, b, x, hx, hb, h1, h2 => by
    rw [replay] at h1 h2
    by_cases h0 : actLen t = 0
    · rw [if_pos h0] at h1 h2
      have ht : t = [] := List.eq_nil_of_length_eq_zero h1.symm
      subst ht
      have h6 := actBytes_length x
      have hl := actLen_bytes hx.2 []
      have hf := actFrom_bytes hx.1 []
      rw [List.append_nil] at hl hf
      rw [List.nil_append, hb, replay, hl, if_neg (by omega), hf, List.drop_length]
      have e0 : replay n [] = ([], 0) := by
        cases n with
        | zero => rfl
        | succ n => rw [replay]; exact if_pos rfl
      have e1 : replay (n + 1) [] = ([], 0) := by rw [replay]; exact if_pos rfl
      rw [e0, e1]
      simp
    · rw [if_neg h0] at h1 h2
      have hp := actLen_pos h0
      have hle := actLen_le t
      have h5 : byteAt (t ++ b) 5 = byteAt t 5 := byteAt_append (by omega)
      have hl : actLen (t ++ b) = actLen t := by
        rw [hp.2.1]
        unfold actLen
        rw [List.length_append, h5, if_neg (by omega), if_neg (by omega)]
      have hlines : ∀ (m : Nat) (u v : List Nat), 4 * m ≤ u.length → linesOf (u ++ v) m = linesOf u m := by
        intro m
        induction m with
        | zero => intros; rfl
        | succ m ih =>
          intro u v hu
          rw [linesOf, linesOf, List.drop_append_of_le_length (by omega), ih _ _ (by rw [List.length_drop]; omega), byteAt_append (by omega), byteAt_append (by omega), byteAt_append (by omega), byteAt_append (by omega)]
      have hf : actFrom (t ++ b) = actFrom t := by
        unfold actFrom
        rw [h5, List.drop_append_of_le_length (by omega), hlines _ _ _ (by rw [List.length_drop]; omega), byteAt_append (by omega), byteAt_append (by omega), byteAt_append (by omega), byteAt_append (by omega), byteAt_append (by omega)]
      have ih := replay_more n (t.drop (actLen t)) b x hx hb (by rw [List.length_drop]; simp only at h1; omega) (by simpa using h2)
      rw [replay, replay, hl, if_neg h0, if_neg h0, hf, List.drop_append_of_le_length hle, ih, List.length_drop]
      simp only [List.cons_append, Prod.mk.injEq, true_and]
      omega
theorem doneOf_append (p : Plan) : ∀ (l m : List Deed) (s : State), doneOf p (l ++ m) s = doneOf p m (doneOf p l s)
  | [], _, _ => rfl
  | x :: l, m, s => by
    rw [List.cons_append, doneOf, doneOf, doneOf_append p l m]
theorem doneOf_check {p : Plan} : ∀ {l : List Deed} {s : State}, checkState p s = 0 → checkState p (doneOf p l s) = 0
  | [], _, h => h
  | x :: l, s, h => by
    rw [doneOf]
    refine doneOf_check ?_
    split
    · rename_i h1
      exact (act_kept h1).2.check
    · exact h
end Wh
namespace Wh
open Go Go.RowKit Go.Shelf Go.Proofs
attribute [local go_sem] run_indexAt_letter evL_tmp evL_const evL_func

/-- One element more, of a row as long as memory lets it be. -/
theorem wpList_pushW {P : Program} (w : World) {α : Type} {enc : α → List Value} {ops : Array Oper} {rest : List Oper} {o : Oper} {a : Act} {Q : Exit → Act → World → Prop} (hgd : o.guard = none) (s x : Operand) (t e : TypeId)
    (ho : o.op = .call { callee := .builtin .append, args := #[s, x], argTypes := #[t, t] }) (base : Nat) (z : Value) (size bytes : Nat) (ht : P.underlying t = some (.slice e)) (hi : Elem P e z size bytes)
    (hzs : z.cells.size = size) (hsz : 0 < size) (v : Value) (l : List α) (y : α) (hs : a.eval s = v) (hown : Own enc size e w base v l)
    (ad : Addr) (c : Nat) (hx : a.eval x = .slice (some ad) 1 c) (hl : (enc y).length = size) (hnews : ∀ j u, (enc y)[j]? = some u → w.cell? (ad.add j) = some u) (h1 : ∀ u ∈ enc y, u.oneCell' = true)
    (hn : (l.length + 1) * bytes ≤ 140737488355328) (hn2 : l.length + 1 ≤ 140737488355328) (hbase : base ≤ w.heap.size)
    (h : ∀ v' w', Own enc size e w' base v' (l ++ [y]) → w.grownBy w' v.ownBlock → (v'.ownBlock = v.ownBlock ∨ v'.ownBlock = some w.heap.size) → Below base w w' → wpList P ops Q rest (a.put o.dst v') w') :
    wpList P ops Q (o :: rest) a w := by
  obtain ⟨i, hi, hz, hsize, hbytes⟩ := hi
  refine wpList_append_own_at w hgd s x t ho base e i z size bytes ht hi hz hsize hbytes hzs hsz v l.length _ hs hown ad 1 c (enc y) hx (by rw [hl, Nat.one_mul]) hnews h1 (by unfold maxLen; omega) hn hbase ?_
  intro v' w' h2 h3 _ h5
  refine h v' w' ?_ h3 h5 ((Below.refl _ _).grown h3 hbase fun k hk => (World.ownsRow.lt hown k hk).1)
  unfold Own
  rw [List.length_append, List.flatMap_append]
  simpa using h2

def cByte (n : Nat) : List Value := [.int .u8 n]
theorem one_byte (n : Nat) : ∀ u ∈ cByte n, u.oneCell' = true := by simp [cByte, Value.oneCell']
theorem infoByte : Elem Tryz.prog 5 (.int .u8 0) 1 1 := elem_of (by kernel_rfl)
/-- What byte(n) is. -/
def byteOf (n : Int) : Nat := (IntKind.u8.wrap n).toNat
theorem byteOf_wrap (n : Int) : IntKind.u8.wrap n = (byteOf n : Int) := by
  unfold byteOf
  rw [IntKind.wrap_u8]
  omega
theorem byteOf_id {n : Int} (h : isByte n = true) : byteOf n = n.toNat := by
  rw [isByte_iff] at h
  unfold byteOf
  rw [IntKind.wrap_u8]
  omega
/-- The pen in its box. -/
def PenV (w : World) (base pb : Nat) (v : Value) (bad : Bool) (bs : List Nat) : Prop := Blk w pb 117 [v, .bool bad] ∧ Own cByte 1 5 w base v bs
theorem PenV.below {w w' : World} {base pb : Nat} {v : Value} {bad : Bool} {bs : List Nat} (h : PenV w base pb v bad bs) (hb : Below w.heap.size w w') : PenV w' base pb v bad bs :=
  ⟨h.1.below hb h.1.lt, h.2.below hb⟩
theorem PenV.drew {w : World} {base pb : Nat} {v : Value} {bad : Bool} {bs : List Nat} (h : PenV w base pb v bad bs) : PenV w.drew base pb v bad bs := h.below (Below.refl _ _).drew
theorem PenV.alloc {w : World} {base pb : Nat} {v : Value} {bad : Bool} {bs : List Nat} (h : PenV w base pb v bad bs) (o : Obj) : PenV (w.alloc o) base pb v bad bs := h.below ((Below.refl _ _).alloc (Nat.le_refl _) _)
/-- Bytes behind. -/
theorem PenV.push {w w' : World} {base pb : Nat} {v v' : Value} {bad : Bool} {bs bs' : List Nat} (h : PenV w base pb v bad bs) (hg : w.grownBy w' v.ownBlock) (ho : Own cByte 1 5 w' base v' bs') : PenV (w'.setCell ⟨pb, 0, none⟩ v') base pb v' bad bs' ∧ w'.grownBy (w'.setCell ⟨pb, 0, none⟩ v') (some pb) := by
  have hb : Blk w' pb 117 [v, .bool bad] := h.1.grown hg (by
    rcases Own.notBox h.2 h.1 (by decide) with hn | hn
    · rw [hn]; intro he; cases he
    · exact fun he => hn he.symm)
  obtain ⟨h1, h2⟩ := set_row hb 0 v'
  exact ⟨⟨h1, ho.kept h2 (Own.notBox ho hb (by decide))⟩, h2⟩
theorem PenV.mark {w : World} {base pb : Nat} {v : Value} {bad : Bool} {bs : List Nat} (h : PenV w base pb v bad bs) (c : Bool) : PenV (w.setCell ⟨pb, 1, none⟩ (.bool c)) base pb v c bs ∧ w.grownBy (w.setCell ⟨pb, 1, none⟩ (.bool c)) (some pb) := by
  obtain ⟨h1, h2⟩ := set_row h.1 1 (.bool c)
  exact ⟨⟨h1, h.2.kept h2 (Own.notBox h.2 h.1 (by decide))⟩, h2⟩
end Wh
namespace Wh
open Go Go.RowKit Go.Shelf Go.Proofs
attribute [local go_sem] run_indexAt_letter evL_tmp evL_const evL_func

section
variable {ops : Array Oper} {rest : List Oper} {o : Oper} {a : Act} {w : World} {Q : Exit → Act → World → Prop} {base pb : Nat} {v : Value} {bad : Bool} {bs : List Nat}
theorem wp_st_bad (hgd : o.guard = none) (x y : Operand) (ho : o.op = .store 4 x y) (hn : o.dst = none) {c : Bool} (hP : PenV w base pb v bad bs) (hx : a.eval x = .pointer (some ⟨pb, 1, none⟩)) (hy : a.eval y = .bool c)
    (h : ∀ w', PenV w' base pb v c bs → w.grownBy w' (some pb) → wpList Tryz.prog ops Q rest a w') : wpList Tryz.prog ops Q (o :: rest) a w :=
  wpList_plain hgd fun K hK => by
    obtain ⟨h1, h2⟩ := hP.mark c
    have h3 := h _ h1 h2
    have hc := hP.1.cell (j := 1) rfl
    have hf := hP.1.frozen 1
    clear h hP h1 h2
    unfold Oper.wp
    simp only [execOp, ho, hx, hy]
    go_simp
    exact hK _ _ h3
theorem wp_st_pen (hgd : o.guard = none) (x y : Operand) (ho : o.op = .store 115 x y) (hn : o.dst = none) {w0 : World} {A : Option Addr} {n c : Nat} {bs' : List Nat} (hP : PenV w0 base pb v bad bs) (hg : w0.grownBy w v.ownBlock) (hO : Own cByte 1 5 w base (.slice A n c) bs')
    (hx : a.eval x = .pointer (some ⟨pb, 0, none⟩)) (hy : a.eval y = .slice A n c)
    (h : ∀ w', PenV w' base pb (.slice A n c) bad bs' → w.grownBy w' (some pb) → wpList Tryz.prog ops Q rest a w') : wpList Tryz.prog ops Q (o :: rest) a w :=
  wpList_plain hgd fun K hK => by
    obtain ⟨h1, h2⟩ := hP.push hg hO
    have h3 := h _ h1 h2
    have hb : Blk w pb 117 [v, .bool bad] := hP.1.grown hg (by
      rcases Own.notBox hP.2 hP.1 (by decide) with hn | hn
      · rw [hn]; intro he; cases he
      · exact fun he => hn he.symm)
    have hc := hb.cell (j := 0) rfl
    have hf := hb.frozen 0
    clear h hP h1 h2 hg hO hb
    unfold Oper.wp
    simp only [execOp, ho, hx, hy]
    go_simp
    exact hK _ _ h3
end
theorem put_bad {l : List Int} {k : Nat} (h : k < l.length) (bad : Bool) : (bad || !((l.take (k + 1)).all isByte)) = ((bad || !((l.take k).all isByte)) || !isByte l[k]) := by
  rw [take_snoc h, List.all_append]
  cases bad <;> cases (l.take k).all isByte <;> cases h2 : isByte l[k] <;> simp [h2]
theorem isByte_false {n : Int} : isByte n = false ↔ n < 0 ∨ 255 < n := by
  rw [Bool.eq_false_iff, Ne, isByte_iff]
  omega

set_option maxHeartbeats 8000000 in
set_option maxRecDepth 100000 in
theorem lgPut (w : World) {base pb lb : Nat} {v : Value} {bad : Bool} {bs : List Nat} {l : List Int} (hP : PenV w base pb v bad bs) (hbase : base ≤ w.heap.size) (hl : Blk w lb 3 (l.map (Value.int .i64))) (hn : l.length ≤ 8) (hbn : bs.length ≤ 70368744177664) :
    Calls Tryz.prog 84 #[.pointer (some ⟨pb, 0, none⟩), .slice (some ⟨lb, 0, none⟩) l.length l.length] w fun e w' => e = .returned (.tuple #[]) ∧ ∃ v', PenV w' base pb v' (bad || !(l.all isByte)) (bs ++ l.map byteOf) ∧
      (∀ k, v'.ownBlock = some k → v.ownBlock = some k ∨ w.heap.size ≤ k) ∧ Step (fun j => j = pb ∨ v.ownBlock = some j) w w' := by
  have hP' := Lib.hid hP
  have hl' := Lib.hid hl
  have hll := hl.lt
  clear hP hl
  go_enter Tryz.func84, Tryz.ntmps84
  go_wp2_with fail
  go_loopw [8, 5] (fun i _ wr => ∃ (k : Nat) (v' : Value), k ≤ l.length ∧ i = .int .i64 k ∧ PenV wr base pb v' (bad || !((l.take k).all isByte)) (bs ++ (l.take k).map byteOf) ∧ (∀ q, v'.ownBlock = some q → v.ownBlock = some q ∨ w.heap.size ≤ q) ∧ Step (fun j => j = pb ∨ v.ownBlock = some j) w wr) (fun i _ _ => l.length - (RowKit.intOf i).toNat)
  case atStart => exact ⟨0, v, Nat.zero_le _, rfl, by simpa using hP'.out, fun q hq => .inl hq, Step.refl _ _⟩
  case round =>
    obtain ⟨k, v', hk, rfl, hP, hvb, hst⟩ := hrel
    have hvb' := Lib.hid hvb
    have hst' := Lib.hid hst
    clear hvb hst
    have hszr := hst'.out.size
    by_cases hlt : k < l.length
    · have hki : (k : Int) < (l.length : Int) := by omega
      have hblr := hst'.out.blk hl'.out (fun hh => by
        rcases hh with rfl | hh
        · exact (hl'.out.ne hP'.out.1 (by decide)) rfl
        · rcases Own.notBox hP'.out.2 hl'.out (by decide) with h | h
          · rw [h] at hh; cases hh
          · exact h hh)
      obtain ⟨x, hx⟩ : ∃ x, l[k] = x := ⟨_, rfl⟩
      have hcx : wr.cell? ⟨lb, k, none⟩ = some (.int .i64 x) := hblr.cell (j := k) (by rw [List.getElem?_map, List.getElem?_eq_getElem hlt, hx]; rfl)
      have hx' := Lib.hid hx
      have hwx := byteOf_wrap x
      obtain ⟨bo, hbo⟩ : ∃ bo, (bad || !((l.take k).all isByte)) = bo := ⟨_, rfl⟩
      obtain ⟨bs1, hbs1⟩ : ∃ bs1, bs ++ (l.take k).map byteOf = bs1 := ⟨_, rfl⟩
      rw [hbo, hbs1] at hP
      have hlen : bs1.length + 1 ≤ 140737488355328 := by
        rw [← hbs1, List.length_append, List.length_map, List.length_take]
        omega
      have hPr := Lib.hid hP
      have c0 := hP.1.cell (j := 0) rfl
      have c1 := hP.1.cell (j := 1) rfl
      have lpb := hP.1.lt
      have llb := hblr.lt
      have hbo' := Lib.hid hbo
      have hbs' := Lib.hid hbs1
      clear hP hblr hbo hbs1 hx
      cases bo
      · by_cases h1 : x < 0
        · have t1 := decide_eq_true h1
          have hY : isByte l[k] = false := by rw [hx'.out]; exact isByte_false.2 (.inl h1)
          clear h1
          have hR : (bad || !((l.take (k + 1)).all isByte)) = true := by rw [put_bad hlt, hbo'.out]; simp [hY]
          have hR' := Lib.hid hR
          clear hR hY
          go_wp2_with (refine wp_st_bad rfl (.tmp 26) (.tmp 24) rfl rfl (c := true) hPr.out rfl rfl (fun w2 hP2 hg2 => ?_); refine Hid.out ?_)
          unfold Hid
          have hP2' := Lib.hid hP2
          have c0 := hP2.1.cell (j := 0) rfl
          have lp2 := hP2.1.lt
          have hsz2 := hg2.size
          have hst2 := Lib.hid (hst'.out.trans (Step.of_grown (ks := fun j => j = pb ∨ v.ownBlock = some j) hg2 (fun q hq => .inl (by injection hq with hq; exact hq.symm))))
          clear hP2 hg2 c1 hcx lpb
          go_wp2_with (refine wpList_pushW _ rfl (.tmp 31) (.tmp 34) 115 5 rfl base _ 1 1 Tryz.underlying115 infoByte rfl (by decide) v' bs1 (byteOf x) rfl (hP2'.out.2.alloc _) ⟨w2.heap.size, 0, none⟩ 1 rfl rfl (cells_new _ _ _) (one_byte _) (by rw [Nat.mul_one]; exact hlen) hlen (by rw [World.size_alloc]; omega) (fun v9 w9 ho9 hg9 hv9 hb9 => ?_); refine Hid.out ?_)
          unfold Hid
          obtain ⟨A9, c9, rfl⟩ := ho9.isSlice
          have ho9' := Lib.hid ho9
          have hg9' := Lib.hid hg9
          have hPa := Lib.hid (hP2'.out.alloc (.cells #[.int .u8 (byteOf x)] 5))
          clear ho9 hg9 c0
          go_wp2_with (refine wp_st_pen rfl (.tmp 37) (.tmp 35) rfl rfl hPa.out hg9'.out ho9'.out rfl rfl (fun w10 hP10 hg10 => ?_); refine Hid.out ?_)
          unfold Hid
          have hP10' := Lib.hid (show PenV w10 base pb _ (bad || !((l.take (k + 1)).all isByte)) (bs ++ (l.take (k + 1)).map byteOf) by rw [hR'.out, take_snoc hlt, List.map_append, ← List.append_assoc, hbs'.out, List.map_cons, List.map_nil, hx'.out]; exact hP10)
          have hst10 := Lib.hid (((hst2.out.trans (Step.of_below ((Below.refl _ _).alloc (Nat.le_refl _) (.cells #[.int .u8 (byteOf x)] 5)))).trans' (Step.of_grown (ks := fun q => v'.ownBlock = some q) hg9'.out (fun q hq => hq)) (fun q hq h => .inr ((hvb'.out q h).resolve_right (by omega)))).trans (Step.of_grown (ks := fun j => j = pb ∨ v.ownBlock = some j) hg10 (fun q hq => .inl (by injection hq with hq; exact hq.symm))))
          have hvb9 := Lib.hid (show ∀ q, (Value.slice A9 (bs1 ++ [byteOf x]).length c9).ownBlock = some q → v.ownBlock = some q ∨ w.heap.size ≤ q from fun q hq => by
            rcases hv9 with h | h
            · exact hvb'.out q (by rw [← h]; exact hq)
            · rw [h, World.size_alloc] at hq
              injection hq with hq
              have := hst2.out.size
              exact .inr (by omega))
          clear hP10 hg10 hv9 hb9 ho9' hg9' hPa hP2' hst2 hPr hvb' hst'
          go_wp2_with fail
          go_roundw
          case rel => exact ⟨k + 1, _, by omega, by go_num, hP10'.out, hvb9.out, hst10.out⟩
          case measure => simp [RowKit.intOf]; omega
        · have t1 := decide_eq_false h1
          by_cases h2 : 255 < x
          · have t2 := decide_eq_true h2
            have hY : isByte l[k] = false := by rw [hx'.out]; exact isByte_false.2 (.inr h2)
            clear h1 h2
            have hR : (bad || !((l.take (k + 1)).all isByte)) = true := by rw [put_bad hlt, hbo'.out]; simp [hY]
            have hR' := Lib.hid hR
            clear hR hY
            go_wp2_with (refine wp_st_bad rfl (.tmp 26) (.tmp 24) rfl rfl (c := true) hPr.out rfl rfl (fun w2 hP2 hg2 => ?_); refine Hid.out ?_)
            unfold Hid
            have hP2' := Lib.hid hP2
            have c0 := hP2.1.cell (j := 0) rfl
            have lp2 := hP2.1.lt
            have hsz2 := hg2.size
            have hst2 := Lib.hid (hst'.out.trans (Step.of_grown (ks := fun j => j = pb ∨ v.ownBlock = some j) hg2 (fun q hq => .inl (by injection hq with hq; exact hq.symm))))
            clear hP2 hg2 c1 hcx lpb
            go_wp2_with (refine wpList_pushW _ rfl (.tmp 31) (.tmp 34) 115 5 rfl base _ 1 1 Tryz.underlying115 infoByte rfl (by decide) v' bs1 (byteOf x) rfl (hP2'.out.2.alloc _) ⟨w2.heap.size, 0, none⟩ 1 rfl rfl (cells_new _ _ _) (one_byte _) (by rw [Nat.mul_one]; exact hlen) hlen (by rw [World.size_alloc]; omega) (fun v9 w9 ho9 hg9 hv9 hb9 => ?_); refine Hid.out ?_)
            unfold Hid
            obtain ⟨A9, c9, rfl⟩ := ho9.isSlice
            have ho9' := Lib.hid ho9
            have hg9' := Lib.hid hg9
            have hPa := Lib.hid (hP2'.out.alloc (.cells #[.int .u8 (byteOf x)] 5))
            clear ho9 hg9 c0
            go_wp2_with (refine wp_st_pen rfl (.tmp 37) (.tmp 35) rfl rfl hPa.out hg9'.out ho9'.out rfl rfl (fun w10 hP10 hg10 => ?_); refine Hid.out ?_)
            unfold Hid
            have hP10' := Lib.hid (show PenV w10 base pb _ (bad || !((l.take (k + 1)).all isByte)) (bs ++ (l.take (k + 1)).map byteOf) by rw [hR'.out, take_snoc hlt, List.map_append, ← List.append_assoc, hbs'.out, List.map_cons, List.map_nil, hx'.out]; exact hP10)
            have hst10 := Lib.hid (((hst2.out.trans (Step.of_below ((Below.refl _ _).alloc (Nat.le_refl _) (.cells #[.int .u8 (byteOf x)] 5)))).trans' (Step.of_grown (ks := fun q => v'.ownBlock = some q) hg9'.out (fun q hq => hq)) (fun q hq h => .inr ((hvb'.out q h).resolve_right (by omega)))).trans (Step.of_grown (ks := fun j => j = pb ∨ v.ownBlock = some j) hg10 (fun q hq => .inl (by injection hq with hq; exact hq.symm))))
            have hvb9 := Lib.hid (show ∀ q, (Value.slice A9 (bs1 ++ [byteOf x]).length c9).ownBlock = some q → v.ownBlock = some q ∨ w.heap.size ≤ q from fun q hq => by
              rcases hv9 with h | h
              · exact hvb'.out q (by rw [← h]; exact hq)
              · rw [h, World.size_alloc] at hq
                injection hq with hq
                have := hst2.out.size
                exact .inr (by omega))
            clear hP10 hg10 hv9 hb9 ho9' hg9' hPa hP2' hst2 hPr hvb' hst'
            go_wp2_with fail
            go_roundw
            case rel => exact ⟨k + 1, _, by omega, by go_num, hP10'.out, hvb9.out, hst10.out⟩
            case measure => simp [RowKit.intOf]; omega
          · have t2 := decide_eq_false h2
            have hY : isByte l[k] = true := by rw [hx'.out]; exact isByte_iff.2 (by omega)
            clear h1 h2
            have hR : (bad || !((l.take (k + 1)).all isByte)) = false := by rw [put_bad hlt, hbo'.out]; simp [hY]
            have hR' := Lib.hid hR
            clear hR hY
            go_wp2_with (refine wp_st_bad rfl (.tmp 26) (.tmp 24) rfl rfl (c := false) hPr.out rfl rfl (fun w2 hP2 hg2 => ?_); refine Hid.out ?_)
            unfold Hid
            have hP2' := Lib.hid hP2
            have c0 := hP2.1.cell (j := 0) rfl
            have lp2 := hP2.1.lt
            have hsz2 := hg2.size
            have hst2 := Lib.hid (hst'.out.trans (Step.of_grown (ks := fun j => j = pb ∨ v.ownBlock = some j) hg2 (fun q hq => .inl (by injection hq with hq; exact hq.symm))))
            clear hP2 hg2 c1 hcx lpb
            go_wp2_with (refine wpList_pushW _ rfl (.tmp 31) (.tmp 34) 115 5 rfl base _ 1 1 Tryz.underlying115 infoByte rfl (by decide) v' bs1 (byteOf x) rfl (hP2'.out.2.alloc _) ⟨w2.heap.size, 0, none⟩ 1 rfl rfl (cells_new _ _ _) (one_byte _) (by rw [Nat.mul_one]; exact hlen) hlen (by rw [World.size_alloc]; omega) (fun v9 w9 ho9 hg9 hv9 hb9 => ?_); refine Hid.out ?_)
            unfold Hid
            obtain ⟨A9, c9, rfl⟩ := ho9.isSlice
            have ho9' := Lib.hid ho9
            have hg9' := Lib.hid hg9
            have hPa := Lib.hid (hP2'.out.alloc (.cells #[.int .u8 (byteOf x)] 5))
            clear ho9 hg9 c0
            go_wp2_with (refine wp_st_pen rfl (.tmp 37) (.tmp 35) rfl rfl hPa.out hg9'.out ho9'.out rfl rfl (fun w10 hP10 hg10 => ?_); refine Hid.out ?_)
            unfold Hid
            have hP10' := Lib.hid (show PenV w10 base pb _ (bad || !((l.take (k + 1)).all isByte)) (bs ++ (l.take (k + 1)).map byteOf) by rw [hR'.out, take_snoc hlt, List.map_append, ← List.append_assoc, hbs'.out, List.map_cons, List.map_nil, hx'.out]; exact hP10)
            have hst10 := Lib.hid (((hst2.out.trans (Step.of_below ((Below.refl _ _).alloc (Nat.le_refl _) (.cells #[.int .u8 (byteOf x)] 5)))).trans' (Step.of_grown (ks := fun q => v'.ownBlock = some q) hg9'.out (fun q hq => hq)) (fun q hq h => .inr ((hvb'.out q h).resolve_right (by omega)))).trans (Step.of_grown (ks := fun j => j = pb ∨ v.ownBlock = some j) hg10 (fun q hq => .inl (by injection hq with hq; exact hq.symm))))
            have hvb9 := Lib.hid (show ∀ q, (Value.slice A9 (bs1 ++ [byteOf x]).length c9).ownBlock = some q → v.ownBlock = some q ∨ w.heap.size ≤ q from fun q hq => by
              rcases hv9 with h | h
              · exact hvb'.out q (by rw [← h]; exact hq)
              · rw [h, World.size_alloc] at hq
                injection hq with hq
                have := hst2.out.size
                exact .inr (by omega))
            clear hP10 hg10 hv9 hb9 ho9' hg9' hPa hP2' hst2 hPr hvb' hst'
            go_wp2_with fail
            go_roundw
            case rel => exact ⟨k + 1, _, by omega, by go_num, hP10'.out, hvb9.out, hst10.out⟩
            case measure => simp [RowKit.intOf]; omega
      · have hY : True := trivial
        have hR : (bad || !((l.take (k + 1)).all isByte)) = true := by rw [put_bad hlt, hbo'.out]; simp [Bool.true_or]
        have hR' := Lib.hid hR
        clear hR hY
        go_wp2_with (refine wp_st_bad rfl (.tmp 26) (.tmp 24) rfl rfl (c := true) hPr.out rfl rfl (fun w2 hP2 hg2 => ?_); refine Hid.out ?_)
        unfold Hid
        have hP2' := Lib.hid hP2
        have c0 := hP2.1.cell (j := 0) rfl
        have lp2 := hP2.1.lt
        have hsz2 := hg2.size
        have hst2 := Lib.hid (hst'.out.trans (Step.of_grown (ks := fun j => j = pb ∨ v.ownBlock = some j) hg2 (fun q hq => .inl (by injection hq with hq; exact hq.symm))))
        clear hP2 hg2 c1 hcx lpb
        go_wp2_with (refine wpList_pushW _ rfl (.tmp 31) (.tmp 34) 115 5 rfl base _ 1 1 Tryz.underlying115 infoByte rfl (by decide) v' bs1 (byteOf x) rfl (hP2'.out.2.alloc _) ⟨w2.heap.size, 0, none⟩ 1 rfl rfl (cells_new _ _ _) (one_byte _) (by rw [Nat.mul_one]; exact hlen) hlen (by rw [World.size_alloc]; omega) (fun v9 w9 ho9 hg9 hv9 hb9 => ?_); refine Hid.out ?_)
        unfold Hid
        obtain ⟨A9, c9, rfl⟩ := ho9.isSlice
        have ho9' := Lib.hid ho9
        have hg9' := Lib.hid hg9
        have hPa := Lib.hid (hP2'.out.alloc (.cells #[.int .u8 (byteOf x)] 5))
        clear ho9 hg9 c0
        go_wp2_with (refine wp_st_pen rfl (.tmp 37) (.tmp 35) rfl rfl hPa.out hg9'.out ho9'.out rfl rfl (fun w10 hP10 hg10 => ?_); refine Hid.out ?_)
        unfold Hid
        have hP10' := Lib.hid (show PenV w10 base pb _ (bad || !((l.take (k + 1)).all isByte)) (bs ++ (l.take (k + 1)).map byteOf) by rw [hR'.out, take_snoc hlt, List.map_append, ← List.append_assoc, hbs'.out, List.map_cons, List.map_nil, hx'.out]; exact hP10)
        have hst10 := Lib.hid (((hst2.out.trans (Step.of_below ((Below.refl _ _).alloc (Nat.le_refl _) (.cells #[.int .u8 (byteOf x)] 5)))).trans' (Step.of_grown (ks := fun q => v'.ownBlock = some q) hg9'.out (fun q hq => hq)) (fun q hq h => .inr ((hvb'.out q h).resolve_right (by omega)))).trans (Step.of_grown (ks := fun j => j = pb ∨ v.ownBlock = some j) hg10 (fun q hq => .inl (by injection hq with hq; exact hq.symm))))
        have hvb9 := Lib.hid (show ∀ q, (Value.slice A9 (bs1 ++ [byteOf x]).length c9).ownBlock = some q → v.ownBlock = some q ∨ w.heap.size ≤ q from fun q hq => by
          rcases hv9 with h | h
          · exact hvb'.out q (by rw [← h]; exact hq)
          · rw [h, World.size_alloc] at hq
            injection hq with hq
            have := hst2.out.size
            exact .inr (by omega))
        clear hP10 hg10 hv9 hb9 ho9' hg9' hPa hP2' hst2 hPr hvb' hst'
        go_wp2_with fail
        go_roundw
        case rel => exact ⟨k + 1, _, by omega, by go_num, hP10'.out, hvb9.out, hst10.out⟩
        case measure => simp [RowKit.intOf]; omega
    · obtain rfl : k = l.length := by omega
      rw [List.take_length] at hP
      have hPr := Lib.hid hP
      clear hP
      go_wp2_with fail
      go_end0
      exact ⟨rfl, v', hPr.out, hvb'.out, hst'.out⟩
end Wh
