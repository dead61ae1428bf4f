/- Texts of the claim, joined: LogH, LogI. -/
import Derived.StillTailTactics
import Derived.Deep.LoopGhost
import Derived.Test.YtfhfkijmebhgmaaGreatQ19
import Derived.Test.YtfhfkijmebhgmaaGreatQ08
namespace Wh
open Go Go.RowKit Go.Shelf Go.Proofs
attribute [local go_sem] run_indexAt_letter evL_tmp evL_const evL_func

def ReadPost (l : List Nat) (w : World) (e : Ending) (w' : World) : Prop :=
  Below w.heap.size w w' ∧ ((actLen l = 0 ∧ e = .returned (.tuple #[.agg #[.int .i64 0, .int .i64 0, .int .i64 0, .int .i64 0, .int .i64 0, .slice none 0 0], .string (bstr l), .bool false])) ∨
    (actLen l ≠ 0 ∧ ∃ vl, e = .returned (.tuple #[.agg #[.int .i64 (actFrom l).kind, .int .i64 (actFrom l).a, .int .i64 (actFrom l).b, .int .i64 (actFrom l).c, .int .i64 (actFrom l).n, vl], .string (bstr (l.drop (actLen l))), .bool true]) ∧ Own cLine 4 44 w' w.heap.size vl (actFrom l).lines))

theorem linesOf_snoc : ∀ (k : Nat) (t : List Nat), linesOf t (k + 1) = linesOf t k ++ [⟨byteAt t (4 * k), byteAt t (4 * k + 1), byteAt t (4 * k + 2), byteAt t (4 * k + 3)⟩]
  | 0, t => rfl
  | k + 1, t => by
    have h := linesOf_snoc k (t.drop 4)
    have e : ∀ j, byteAt (t.drop 4) j = byteAt t (4 + j) := fun j => by
      unfold byteAt
      simp [List.getD]
    rw [linesOf, h, linesOf, List.cons_append]
    simp only [e]
    rw [show 4 + 4 * k = 4 * (k + 1) by omega, show 4 + (4 * k + 1) = 4 * (k + 1) + 1 by omega, show 4 + (4 * k + 2) = 4 * (k + 1) + 2 by omega, show 4 + (4 * k + 3) = 4 * (k + 1) + 3 by omega]
theorem linesOf_next {q r : List Nat} {k a b c d : Nat} (h : q.drop (4 * k) = a :: b :: c :: d :: r) : linesOf q (k + 1) = linesOf q k ++ [⟨a, b, c, d⟩] := by
  have e : ∀ j, byteAt q (4 * k + j) = byteAt (q.drop (4 * k)) j := fun j => by
    unfold byteAt
    simp [List.getD]
  rw [linesOf_snoc]
  have e0 := e 0
  rw [Nat.add_zero] at e0
  rw [e0, e 1, e 2, e 3, h]
  rfl
theorem four_list {α : Type} {l : List α} (h : 4 ≤ l.length) : ∃ a b c d r, l = a :: b :: c :: d :: r := by
  match l, h with
  | a :: b :: c :: d :: r, _ => exact ⟨a, b, c, d, r, rfl⟩
theorem five_list {α : Type} {l : List α} (h : 5 ≤ l.length) : ∃ a b c d e r, l = a :: b :: c :: d :: e :: r := by
  match l, h with
  | a :: b :: c :: d :: e :: r, _ => exact ⟨a, b, c, d, e, r, rfl⟩

/-- What stands in the boxes of log.read: the text, the act that is read, what is handed back. -/
structure RdB (w : World) (s : ByteArray) (cx : List Value) (W : World) : Prop where
  below : Below w.heap.size w W
  hs : Blk W w.heap.size 9 [.string s]
  hx : Blk W (w.heap.size + 1) 34 cx
  hr : Blk W (w.heap.size + 1 + 1) 9 [.string ⟨#[]⟩]
  hi : Blk W (w.heap.size + 1 + 1 + 1) 4 [.bool false]
theorem RdB.up {w : World} {s : ByteArray} {cx : List Value} {W W' : World} (h : RdB w s cx W) (hb : Below W.heap.size W W') : RdB w s cx W' :=
  ⟨h.below.trans (hb.mono h.below.size), h.hs.below hb h.hs.lt, h.hx.below hb h.hx.lt, h.hr.below hb h.hr.lt, h.hi.below hb h.hi.lt⟩
/-- What is written behind the boxes leaves them. -/
theorem RdB.off {w : World} {s : ByteArray} {cx : List Value} {W W' : World} {ks : Nat → Prop} (h : RdB w s cx W) (hs : Step ks W W') (hk : ∀ k, ks k → w.heap.size + 1 + 1 + 1 + 1 ≤ k) : RdB w s cx W' :=
  ⟨h.below.trans (hs.below (B := w.heap.size) (fun k hh => by have := hk k hh; omega) h.below.size), hs.blk h.hs (fun hh => by have := hk _ hh; omega), hs.blk h.hx (fun hh => by have := hk _ hh; omega), hs.blk h.hr (fun hh => by have := hk _ hh; omega), hs.blk h.hi (fun hh => by have := hk _ hh; omega)⟩
/-- .. but the act's. -/
theorem RdB.act {w : World} {s : ByteArray} {cx cx' : List Value} {W W' : World} {ks : Nat → Prop} (h : RdB w s cx W) (hs : Step ks W W') (hk : ∀ k, ks k → k = w.heap.size + 1 ∨ w.heap.size + 1 + 1 + 1 + 1 ≤ k) (hx : Blk W' (w.heap.size + 1) 34 cx') : RdB w s cx' W' :=
  ⟨h.below.trans (hs.below (B := w.heap.size) (fun k hh => by have := hk k hh; omega) h.below.size), hs.blk h.hs (fun hh => by have := hk _ hh; omega), hx, hs.blk h.hr (fun hh => by have := hk _ hh; omega), hs.blk h.hi (fun hh => by have := hk _ hh; omega)⟩
theorem boxesRead (w : World) (s : ByteArray) : ∃ W : World, (((((w.alloc (.cells #[.string s] 9)).alloc (.cells #[.int .i64 0, .int .i64 0, .int .i64 0, .int .i64 0, .int .i64 0, .slice none 0 0] 34)).alloc (.cells #[.string ⟨#[]⟩] 9)).alloc (.cells #[.bool false] 4)).alloc (.cells #[.string s] 176)) = W ∧
    RdB w s zAct W ∧ Blk W (w.heap.size + 1 + 1 + 1 + 1) 176 [.string s] ∧ W.heap.size = w.heap.size + 1 + 1 + 1 + 1 + 1 := by
  have h1 := Blk.new w 9 #[.string s]
  have h2 := Blk.new (w.alloc (.cells #[.string s] 9)) 34 #[.int .i64 0, .int .i64 0, .int .i64 0, .int .i64 0, .int .i64 0, .slice none 0 0]
  have h3 := Blk.new ((w.alloc (.cells #[.string s] 9)).alloc (.cells #[.int .i64 0, .int .i64 0, .int .i64 0, .int .i64 0, .int .i64 0, .slice none 0 0] 34)) 9 #[.string ⟨#[]⟩]
  have h4 := Blk.new (((w.alloc (.cells #[.string s] 9)).alloc (.cells #[.int .i64 0, .int .i64 0, .int .i64 0, .int .i64 0, .int .i64 0, .slice none 0 0] 34)).alloc (.cells #[.string ⟨#[]⟩] 9)) 4 #[.bool false]
  have h5 := Blk.new ((((w.alloc (.cells #[.string s] 9)).alloc (.cells #[.int .i64 0, .int .i64 0, .int .i64 0, .int .i64 0, .int .i64 0, .slice none 0 0] 34)).alloc (.cells #[.string ⟨#[]⟩] 9)).alloc (.cells #[.bool false] 4)) 176 #[.string s]
  simp only [World.size_alloc] at h2 h3 h4 h5
  refine ⟨_, rfl, ⟨?_, (((h1.alloc _).alloc _).alloc _).alloc _, ((h2.alloc _).alloc _).alloc _, (h3.alloc _).alloc _, h4.alloc _⟩, h5, by simp only [World.size_alloc]⟩
  exact (((((Below.refl _ _).alloc (Nat.le_refl _) _).alloc (by simp) _).alloc (by simp only [World.size_alloc]; omega) _).alloc (by simp only [World.size_alloc]; omega) _).alloc (by simp only [World.size_alloc]; omega) _

theorem RdB.grown {w : World} {s : ByteArray} {cx : List Value} {W W' : World} {base : Nat} {v : Value} {ls : List Line} (h : RdB w s cx W) (ho : Own cLine 4 44 W base v ls) (hb : w.heap.size ≤ base) (hg : W.grownBy W' v.ownBlock) : RdB w s cx W' := by
  have key : ∀ {g : Nat} {t : TypeId} {cur : List Value}, Blk W g t cur → 44 ≠ t → Blk W' g t cur := fun hk hne => hk.grown hg (by
    rcases Own.notBox ho hk hne with hn | hn
    · rw [hn]; intro he; cases he
    · exact fun he => hn he.symm)
  exact ⟨Below.grown h.below hg h.below.size (fun k hk => Nat.le_trans hb (ho.size k hk).1), key h.hs (by decide), key h.hx (by decide), key h.hr (by decide), key h.hi (by decide)⟩
theorem RdB.setAct {w : World} {s : ByteArray} {cx : List Value} {W : World} (h : RdB w s cx W) (j : Nat) (u : Value) : RdB w s (cx.set j u) (W.setCell ⟨w.heap.size + 1, j, none⟩ u) ∧ W.grownBy (W.setCell ⟨w.heap.size + 1, j, none⟩ u) (some (w.heap.size + 1)) := by
  obtain ⟨h1, h2⟩ := set_row h.hx j u
  exact ⟨h.act (Step.of_grown (ks := (· = w.heap.size + 1)) h2 (fun k hk => by injection hk with hk; exact hk.symm)) (fun k hk => .inl hk) h1, h2⟩

set_option maxHeartbeats 8000000 in
set_option maxRecDepth 100000 in
theorem lgRead (w : World) (l : List Nat) (hb : ∀ n ∈ l, n < 256) : Calls Tryz.prog 85 #[.string (bstr l)] w (ReadPost l w) := by
  have hmf : ∀ (fn : Fn) (first cap : Array Value) (w : World), (Instr.makeFunc fn first cap).run Tryz.prog w = .ok (.func fn first cap) w := fun _ _ _ _ => rfl
  have hb' := Lib.hid hb
  clear hb
  go_enter_defers Tryz.func85, Tryz.ntmps85
  go_wp2_with fail
  obtain ⟨W, hW, hR, hG, hsz⟩ := boxesRead w (bstr l)
  rw [hW]
  clear hW
  have hbp : Below W.heap.size W (W.alloc (.cells #[.pointer (some ⟨w.heap.size + 1, 0, none⟩), .pointer (some ⟨w.heap.size + 1, 1, none⟩), .pointer (some ⟨w.heap.size + 1, 2, none⟩), .pointer (some ⟨w.heap.size + 1, 3, none⟩), .pointer (some ⟨w.heap.size + 1, 4, none⟩)] 178)) := (Below.refl _ _).alloc (Nat.le_refl _) _
  have hpt : Blk (W.alloc (.cells #[.pointer (some ⟨w.heap.size + 1, 0, none⟩), .pointer (some ⟨w.heap.size + 1, 1, none⟩), .pointer (some ⟨w.heap.size + 1, 2, none⟩), .pointer (some ⟨w.heap.size + 1, 3, none⟩), .pointer (some ⟨w.heap.size + 1, 4, none⟩)] 178)) (w.heap.size + 1 + 1 + 1 + 1 + 1) 178 ((List.range 5).map fun i => Value.pointer (some ⟨w.heap.size + 1, i, none⟩)) := by
    have h := Blk.new W 178 #[.pointer (some ⟨w.heap.size + 1, 0, none⟩), .pointer (some ⟨w.heap.size + 1, 1, none⟩), .pointer (some ⟨w.heap.size + 1, 2, none⟩), .pointer (some ⟨w.heap.size + 1, 3, none⟩), .pointer (some ⟨w.heap.size + 1, 4, none⟩)]
    rw [hsz] at h
    exact h
  generalize W.alloc (.cells #[.pointer (some ⟨w.heap.size + 1, 0, none⟩), .pointer (some ⟨w.heap.size + 1, 1, none⟩), .pointer (some ⟨w.heap.size + 1, 2, none⟩), .pointer (some ⟨w.heap.size + 1, 3, none⟩), .pointer (some ⟨w.heap.size + 1, 4, none⟩)] 178) = W1 at hbp hpt ⊢
  have hR1 := hR.up hbp
  have hG1 := hG.below hbp hG.lt
  clear hR hG hbp hsz
  refine (lgInto W1 (m := 5) hG1 hR1.hx (by decide) (by decide) hpt (by decide) (by decide) hb'.out).mono ?_
  rintro e W2 ⟨hst, ⟨h5, rfl, hG2, hx2⟩ | ⟨h5, rfl, cs', hcs, hx2⟩⟩
  · have hR2 := hR1.act hst (fun k hk => by omega) hx2
    clear hR1 hG1 hpt hst hx2
    obtain ⟨a, b, c, d, e, r, rfl⟩ := five_list h5
    have hR2' := Lib.hid (show RdB w (bstr (a :: b :: c :: d :: e :: r)) [.int .i64 a, .int .i64 b, .int .i64 c, .int .i64 d, .int .i64 e, .slice none 0 0] W2 from hR2)
    have hG2' : Blk W2 (w.heap.size + 1 + 1 + 1 + 1) 176 [.string (bstr r)] := hG2
    clear hR2 hG2 h5
    go_wp2_with fail
    rcases r with _ | ⟨n, q⟩
    · refine (lgNumShort W2 hG2').mono ?_
      rintro e2 W3 ⟨rfl, rfl⟩
      go_wp2_with fail
      refine leaves_cons (f := 144) (args := #[.pointer (some ⟨w.heap.size, 0, none⟩), .pointer (some ⟨w.heap.size + 1, 0, none⟩), .pointer (some ⟨w.heap.size + 1 + 1, 0, none⟩), .pointer (some ⟨w.heap.size + 1 + 1 + 1, 0, none⟩)]) (by simp) (by simp [go_sem]) ?_
      refine (rdCaught _ (hR2'.out).hs (hR2'.out).hx rfl (hR2'.out).hr (hR2'.out).hi 181 (.agg #[]) []).mono ?_
      rintro e u' w9 ⟨rfl, rfl, hx9, hr9, hi9, hst9⟩
      have a0 := hx9.cell (j := 0) rfl
      have a1 := hx9.cell (j := 1) rfl
      have a2 := hx9.cell (j := 2) rfl
      have a3 := hx9.cell (j := 3) rfl
      have a4 := hx9.cell (j := 4) rfl
      have a5 := hx9.cell (j := 5) rfl
      have b0 := hr9.cell (j := 0) rfl
      have i0 := hi9.cell (j := 0) rfl
      have hfin : ReadPost [a, b, c, d, e] w (.returned (.tuple #[.agg #[.int .i64 0, .int .i64 0, .int .i64 0, .int .i64 0, .int .i64 0, .slice none 0 0], .string (bstr [a, b, c, d, e]), .bool false])) w9 :=
        ⟨(hR2'.out).below.trans (hst9.below (B := w.heap.size) (fun k hk => by omega) (hR2'.out).below.size), .inl ⟨rfl, rfl⟩⟩
      have hfin' := Lib.hid hfin
      clear hfin hx9 hr9 hi9 hst9
      simp [Leaves, settle, results, Tryz.results85, go_sem, a0, a1, a2, a3, a4, a5, b0, i0]
      exact hfin'.out
    · have hn : n < 256 := hb'.out n (by simp)
      refine (lgNum W2 hG2' hn).mono ?_
      rintro e2 W3 ⟨rfl, hG3, hgr⟩
      have hR3 := Lib.hid (hR2'.out.off (Step.of_grown (ks := (· = w.heap.size + 1 + 1 + 1 + 1)) hgr (fun k hk => by injection hk with hk; exact hk.symm)) (fun k hk => by omega))
      clear hR2' hG2' hgr
      by_cases h3 : 3 < n
      · have h3i : (3 : Int) < (n : Int) := by omega
        have hz : actLen (a :: b :: c :: d :: e :: n :: q) = 0 := by
          unfold actLen
          rw [if_neg (by simp), if_pos (.inl (show 3 < n from h3))]
        have hz' := Lib.hid hz
        clear hz h3
        go_wp2_with fail
        refine leaves_cons (f := 144) (args := #[.pointer (some ⟨w.heap.size, 0, none⟩), .pointer (some ⟨w.heap.size + 1, 0, none⟩), .pointer (some ⟨w.heap.size + 1 + 1, 0, none⟩), .pointer (some ⟨w.heap.size + 1 + 1 + 1, 0, none⟩)]) (by simp) (by simp [go_sem]) ?_
        refine (rdCaught _ (hR3.out).hs (hR3.out).hx rfl (hR3.out).hr (hR3.out).hi 181 (.agg #[]) []).mono ?_
        rintro e u' w9 ⟨rfl, rfl, hx9, hr9, hi9, hst9⟩
        have a0 := hx9.cell (j := 0) rfl
        have a1 := hx9.cell (j := 1) rfl
        have a2 := hx9.cell (j := 2) rfl
        have a3 := hx9.cell (j := 3) rfl
        have a4 := hx9.cell (j := 4) rfl
        have a5 := hx9.cell (j := 5) rfl
        have b0 := hr9.cell (j := 0) rfl
        have i0 := hi9.cell (j := 0) rfl
        have hfin : ReadPost (a :: b :: c :: d :: e :: n :: q) w (.returned (.tuple #[.agg #[.int .i64 0, .int .i64 0, .int .i64 0, .int .i64 0, .int .i64 0, .slice none 0 0], .string (bstr (a :: b :: c :: d :: e :: n :: q)), .bool false])) w9 :=
          ⟨(hR3.out).below.trans (hst9.below (B := w.heap.size) (fun k hk => by omega) (hR3.out).below.size), .inl ⟨hz'.out, rfl⟩⟩
        have hfin' := Lib.hid hfin
        clear hfin hx9 hr9 hi9 hst9
        simp [Leaves, settle, results, Tryz.results85, go_sem, a0, a1, a2, a3, a4, a5, b0, i0]
        exact hfin'.out
      · have h3i : ¬ (3 : Int) < (n : Int) := by omega
        have hG3' := Lib.hid hG3
        clear hG3 h3
        go_wp2_with fail
        go_loopw [27, 7] (fun i _ wr => ∃ (k : Nat) (vl : Value), k ≤ n ∧ 4 * k ≤ q.length ∧ i = .int .i64 k ∧ RdB w (bstr (a :: b :: c :: d :: e :: n :: q)) [.int .i64 a, .int .i64 b, .int .i64 c, .int .i64 d, .int .i64 e, vl] wr ∧ Blk wr (w.heap.size + 1 + 1 + 1 + 1) 176 [.string (bstr (q.drop (4 * k)))] ∧ Own cLine 4 44 wr w.heap.size vl (linesOf q k)) (fun i _ _ => n - (RowKit.intOf i).toNat)
        case atStart => exact ⟨0, _, Nat.zero_le _, Nat.zero_le _, rfl, hR3.out, hG3'.out, Own.nil⟩
        case round =>
          clear hR3 hG3'
          obtain ⟨k, vl, hk, hkq, rfl, hR, hG, hO⟩ := hrel
          have hR' := Lib.hid hR
          have hG' := Lib.hid hG
          have hO' := Lib.hid hO
          have hsz := hR.hi.lt
          have hgl := hG.lt
          have hbel := hR.below.size
          clear hR hG hO
          by_cases hlt : k < n
          · have hki : (k : Int) < (n : Int) := by omega
            go_wp2_with fail
            have hb1 : Below wr.heap.size wr ((wr.alloc (.cells #[.int .i64 0, .int .i64 0, .int .i64 0, .int .i64 0] 44)).alloc (.cells #[.pointer (some ⟨wr.heap.size, 0, none⟩), .pointer (some ⟨wr.heap.size, 1, none⟩), .pointer (some ⟨wr.heap.size, 2, none⟩), .pointer (some ⟨wr.heap.size, 3, none⟩)] 178)) := ((Below.refl _ _).alloc (Nat.le_refl _) _).alloc (by simp) _
            have htb : Blk ((wr.alloc (.cells #[.int .i64 0, .int .i64 0, .int .i64 0, .int .i64 0] 44)).alloc (.cells #[.pointer (some ⟨wr.heap.size, 0, none⟩), .pointer (some ⟨wr.heap.size, 1, none⟩), .pointer (some ⟨wr.heap.size, 2, none⟩), .pointer (some ⟨wr.heap.size, 3, none⟩)] 178)) wr.heap.size 44 [.int .i64 0, .int .i64 0, .int .i64 0, .int .i64 0] := (Blk.new wr 44 #[.int .i64 0, .int .i64 0, .int .i64 0, .int .i64 0]).alloc _
            have hpt : Blk ((wr.alloc (.cells #[.int .i64 0, .int .i64 0, .int .i64 0, .int .i64 0] 44)).alloc (.cells #[.pointer (some ⟨wr.heap.size, 0, none⟩), .pointer (some ⟨wr.heap.size, 1, none⟩), .pointer (some ⟨wr.heap.size, 2, none⟩), .pointer (some ⟨wr.heap.size, 3, none⟩)] 178)) (wr.heap.size + 1) 178 ((List.range 4).map fun i => Value.pointer (some ⟨wr.heap.size, i, none⟩)) := by
              have h := Blk.new (wr.alloc (.cells #[.int .i64 0, .int .i64 0, .int .i64 0, .int .i64 0] 44)) 178 #[.pointer (some ⟨wr.heap.size, 0, none⟩), .pointer (some ⟨wr.heap.size, 1, none⟩), .pointer (some ⟨wr.heap.size, 2, none⟩), .pointer (some ⟨wr.heap.size, 3, none⟩)]
              rw [World.size_alloc] at h
              exact h
            generalize (wr.alloc (.cells #[.int .i64 0, .int .i64 0, .int .i64 0, .int .i64 0] 44)).alloc (.cells #[.pointer (some ⟨wr.heap.size, 0, none⟩), .pointer (some ⟨wr.heap.size, 1, none⟩), .pointer (some ⟨wr.heap.size, 2, none⟩), .pointer (some ⟨wr.heap.size, 3, none⟩)] 178) = W4 at hb1 htb hpt ⊢
            refine (lgInto W4 (m := 4) (hG'.out.below hb1 hgl) htb (by decide) (by decide) hpt (by decide) (by decide) (fun x hx => hb'.out x (by
              have := List.mem_of_mem_drop hx
              simp [this]))).mono ?_
            rintro e3 W5 ⟨hst, ⟨h4, rfl, hG5, ht5⟩ | ⟨h4, rfl, cs', hcs, ht5⟩⟩
            · obtain ⟨a', b', c', d', r', hq⟩ := four_list h4
              rw [hq] at hG5 ht5
              have hR5 := Lib.hid ((hR'.out.up hb1).off hst (fun k hk => by omega))
              have hO5 := Lib.hid ((hO'.out.below hb1).step hst (fun k hk hh => by
                rcases hh with rfl | rfl
                · rcases Own.notBox hO'.out hG'.out (by decide) with hn | hn
                  · rw [hn] at hk; cases hk
                  · exact hn hk
                · have := (hO'.out.size _ hk).2
                  omega))
              have ht5' : Blk W5 wr.heap.size 44 [.int .i64 a', .int .i64 b', .int .i64 c', .int .i64 d'] := ht5
              have hG5' := Lib.hid (show Blk W5 (w.heap.size + 1 + 1 + 1 + 1) 176 [.string (bstr (q.drop (4 * (k + 1))))] by
                have e : q.drop (4 * (k + 1)) = r' := by
                  rw [show 4 * (k + 1) = 4 * k + 4 by omega, ← List.drop_drop, hq]
                  rfl
                rw [e]
                exact hG5)
              have hln := Lib.hid (linesOf_next hq)
              have hll : (linesOf q k).length ≤ 1000000 := by
                have : ∀ (m : Nat) (t : List Nat), (linesOf t m).length = m := fun m => by
                  induction m with
                  | zero => intro t; rfl
                  | succ m ih => intro t; rw [linesOf, List.length_cons, ih]
                rw [this]
                omega
              have hq5 : 4 * (k + 1) ≤ q.length := by rw [List.length_drop] at h4; omega
              have hbase5 : w.heap.size ≤ W5.heap.size := hR5.out.below.size
              have x5 := hR5.out.hx.cell (j := 5) rfl
              have lx5 := hR5.out.hx.lt
              have t0 := ht5'.cell (j := 0) rfl
              have t1 := ht5'.cell (j := 1) rfl
              have t2 := ht5'.cell (j := 2) rfl
              have t3 := ht5'.cell (j := 3) rfl
              clear hb1 htb hpt hst hG5 ht5 ht5' hR' hG' hO' h4 hq
              go_wp2_with (refine wpList_push _ rfl (.tmp 37) (.tmp 39) 32 44 rfl w.heap.size _ 4 32 Tryz.underlying32 infoLine rfl (by decide) (by decide) vl (linesOf q k) ⟨a', b', c', d'⟩ rfl (hO5.out.alloc _) ⟨W5.heap.size, 0, none⟩ 1 rfl rfl (cells_new _ _ _) (oneLine _) hll (by rw [World.size_alloc]; omega) (fun v9 w9 ho9 hg9 hv9 hb9 => ?_); refine Hid.out ?_)
              unfold Hid
              obtain ⟨A9, c9, hv9e⟩ := ho9.isSlice
              obtain ⟨n9, hn9⟩ : ∃ n9, (linesOf q k ++ [(⟨a', b', c', d'⟩ : Line)]).length = n9 := ⟨_, rfl⟩
              rw [hn9] at hv9e
              subst hv9e
              clear hn9 hv9 hb9
              have hRa := hR5.out.up ((Below.refl W5.heap.size W5).alloc (Nat.le_refl _) (.cells #[.int .i64 a', .int .i64 b', .int .i64 c', .int .i64 d'] 44))
              have hOa := hO5.out.alloc (.cells #[.int .i64 a', .int .i64 b', .int .i64 c', .int .i64 d'] 44)
              have hGa := hG5'.out.alloc (.cells #[.int .i64 a', .int .i64 b', .int .i64 c', .int .i64 d'] 44)
              have hR9 := Lib.hid (hRa.grown hOa (Nat.le_refl _) hg9)
              have hG9 := hGa.grown hg9 (by
                rcases Own.notBox hOa hGa (by decide) with hn | hn
                · rw [hn]; intro he; cases he
                · exact fun he => hn he.symm)
              rw [← hln.out] at ho9
              have y5 := hR9.out.hx.cell (j := 5) rfl
              have z5 := hR9.out.hx.frozen 5
              have ly5 := hR9.out.hx.lt
              clear hRa hOa hGa hg9 x5 lx5 t0 t1 t2 t3 hR5 hO5 hG5'
              go_wp2_with fail
              obtain ⟨hR10, hg10⟩ := hR9.out.setAct 5 (.slice A9 n9 c9)
              have hO10 := Lib.hid (ho9.kept hg10 (Own.notBox ho9 hR9.out.hx (by decide)))
              have hG10 := Lib.hid (hG9.grown hg10 (by intro he; injection he with he; omega))
              have hR10' := Lib.hid (show RdB w (bstr (a :: b :: c :: d :: e :: n :: q)) [.int .i64 a, .int .i64 b, .int .i64 c, .int .i64 d, .int .i64 e, .slice A9 n9 c9] _ from hR10)
              clear hR10 hg10 ho9 hG9 hR9 y5 z5 ly5
              go_roundw
              case rel => exact ⟨k + 1, _, by omega, hq5, by go_num, hR10'.out, hG10.out, hO10.out⟩
              case measure => simp [RowKit.intOf]; omega
            · have hR5 := Lib.hid ((hR'.out.up hb1).off hst (fun k hk => by omega))
              have hz : actLen (a :: b :: c :: d :: e :: n :: q) = 0 := by
                have h5 : byteAt (a :: b :: c :: d :: e :: n :: q) 5 = n := rfl
                rw [List.length_drop] at h4
                unfold actLen
                rw [h5, if_neg (by simp), if_pos (.inr (by simp only [List.length_cons]; omega))]
              have hz' := Lib.hid hz
              clear hR' hG' hO' hb1 htb hpt hst ht5 hz h4
              go_wp2_with fail
              refine leaves_cons (f := 144) (args := #[.pointer (some ⟨w.heap.size, 0, none⟩), .pointer (some ⟨w.heap.size + 1, 0, none⟩), .pointer (some ⟨w.heap.size + 1 + 1, 0, none⟩), .pointer (some ⟨w.heap.size + 1 + 1 + 1, 0, none⟩)]) (by simp) (by simp [go_sem]) ?_
              refine (rdCaught _ (hR5.out).hs (hR5.out).hx rfl (hR5.out).hr (hR5.out).hi 181 (.agg #[]) []).mono ?_
              rintro e u' w9 ⟨rfl, rfl, hx9, hr9, hi9, hst9⟩
              have a0 := hx9.cell (j := 0) rfl
              have a1 := hx9.cell (j := 1) rfl
              have a2 := hx9.cell (j := 2) rfl
              have a3 := hx9.cell (j := 3) rfl
              have a4 := hx9.cell (j := 4) rfl
              have a5 := hx9.cell (j := 5) rfl
              have b0 := hr9.cell (j := 0) rfl
              have i0 := hi9.cell (j := 0) rfl
              have hfin : ReadPost (a :: b :: c :: d :: e :: n :: q) w (.returned (.tuple #[.agg #[.int .i64 0, .int .i64 0, .int .i64 0, .int .i64 0, .int .i64 0, .slice none 0 0], .string (bstr (a :: b :: c :: d :: e :: n :: q)), .bool false])) w9 :=
                ⟨(hR5.out).below.trans (hst9.below (B := w.heap.size) (fun k hk => by omega) (hR5.out).below.size), .inl ⟨hz'.out, rfl⟩⟩
              have hfin' := Lib.hid hfin
              clear hfin hx9 hr9 hi9 hst9
              simp [Leaves, settle, results, Tryz.results85, go_sem, a0, a1, a2, a3, a4, a5, b0, i0]
              exact hfin'.out
          · obtain rfl : k = n := by omega
            have h5 : byteAt (a :: b :: c :: d :: e :: k :: q) 5 = k := rfl
            have hac : actLen (a :: b :: c :: d :: e :: k :: q) = 6 + 4 * k := by
              unfold actLen
              rw [h5, if_neg (by simp), if_neg (by simp only [List.length_cons]; omega)]
            have hdr : List.drop (6 + 4 * k) (a :: b :: c :: d :: e :: k :: q) = q.drop (4 * k) := by
              rw [Nat.add_comm]
              rfl
            have hac' := Lib.hid hac
            have hdr' := Lib.hid hdr
            clear h5 hac hdr hlt
            obtain ⟨A9, c9, hv9e⟩ := hO'.out.isSlice
            obtain ⟨n9, hn9⟩ : ∃ n9, (linesOf q k).length = n9 := ⟨_, rfl⟩
            rw [hn9] at hv9e
            subst hv9e
            have x0 := hR'.out.hx.cell (j := 0) rfl
            have x1 := hR'.out.hx.cell (j := 1) rfl
            have x2 := hR'.out.hx.cell (j := 2) rfl
            have x3 := hR'.out.hx.cell (j := 3) rfl
            have x4 := hR'.out.hx.cell (j := 4) rfl
            have x5 := hR'.out.hx.cell (j := 5) rfl
            have g0 := hG'.out.cell (j := 0) rfl
            clear hn9
            go_wp2_with fail
            go_still_tail 5, (by kernel_rfl)
            change wpList _ _ _ _ _ wr.drew
            have hRd := hR'.out.up (Below.refl wr.heap.size wr).drew
            have hOd : Own cLine 4 44 wr.drew w.heap.size (.slice A9 n9 c9) (linesOf q k) := hO'.out.below (Below.refl _ _).drew
            refine wpList_store_row rfl 34 (.tmp 2) (.tmp 43) rfl (w.heap.size + 1) #[.int .i64 a, .int .i64 b, .int .i64 c, .int .i64 d, .int .i64 e, .slice A9 n9 c9] rfl rfl 34 _ hRd.hx (by kernel_rfl) rfl (by simp [Value.oneCell']) ?_
            have hg1 := grown_row wr.drew (w.heap.size + 1) #[.int .i64 a, .int .i64 b, .int .i64 c, .int .i64 d, .int .i64 e, .slice A9 n9 c9]
            have hR1 := hRd.act (Step.of_grown (ks := (· = w.heap.size + 1)) hg1 (fun j hj => by injection hj with hj; exact hj.symm)) (fun j hj => .inl hj) (hRd.hx.row [.int .i64 a, .int .i64 b, .int .i64 c, .int .i64 d, .int .i64 e, .slice A9 n9 c9])
            have hO1 := hOd.kept hg1 (Own.notBox hOd hRd.hx (by decide))
            generalize wr.drew.setRow (w.heap.size + 1) #[.int .i64 a, .int .i64 b, .int .i64 c, .int .i64 d, .int .i64 e, .slice A9 n9 c9] = w1 at hg1 hR1 hO1 ⊢
            clear x0 x1 x2 x3 x4 x5 g0 hRd hOd hg1 hR' hG' hO'
            have hR1' := Lib.hid hR1
            have hO1' := Lib.hid hO1
            have r0 := hR1.hr.cell (j := 0) rfl
            have rf := hR1.hr.frozen 0
            have i0 := hR1.hi.cell (j := 0) rfl
            have if0 := hR1.hi.frozen 0
            clear hR1 hO1
            go_wp2_with fail
            refine leaves_cons (f := 144) (args := #[.pointer (some ⟨w.heap.size, 0, none⟩), .pointer (some ⟨w.heap.size + 1, 0, none⟩), .pointer (some ⟨w.heap.size + 1 + 1, 0, none⟩), .pointer (some ⟨w.heap.size + 1 + 1 + 1, 0, none⟩)]) (by simp) (by simp [go_sem]) ?_
            refine (rdIdle _ _ _ _ _).mono ?_
            rintro e3 u' w9 ⟨rfl, rfl, rfl⟩
            clear r0 rf i0 if0
            obtain ⟨hr2, hg2⟩ := set_row hR1'.out.hr 0 (.string (bstr (q.drop (4 * k))))
            have hx2 := hR1'.out.hx.grown hg2 (by intro he; injection he with he; omega)
            have hi2 := hR1'.out.hi.grown hg2 (by intro he; injection he with he; omega)
            have hO2 := hO1'.out.kept hg2 (Own.notBox hO1'.out hR1'.out.hr (by decide))
            have hb2 := hR1'.out.below.grown hg2 hR1'.out.below.size (fun j hj => by injection hj with hj; omega)
            obtain ⟨hi3, hg3⟩ := set_row hi2 0 (.bool true)
            have hx3 := hx2.grown hg3 (by intro he; injection he with he; omega)
            have hr3 := hr2.grown hg3 (by intro he; injection he with he; omega)
            have hO3 := hO2.kept hg3 (Own.notBox hO2 hi2 (by decide))
            have hb3 := hb2.grown hg3 hb2.size (fun j hj => by injection hj with hj; omega)
            generalize (w1.setCell ⟨w.heap.size + 1 + 1, 0, none⟩ (.string (bstr (q.drop (4 * k))))).setCell ⟨w.heap.size + 1 + 1 + 1, 0, none⟩ (.bool true) = wF at hi3 hx3 hr3 hO3 hb3 ⊢
            have a0 := hx3.cell (j := 0) rfl
            have a1 := hx3.cell (j := 1) rfl
            have a2 := hx3.cell (j := 2) rfl
            have a3 := hx3.cell (j := 3) rfl
            have a4 := hx3.cell (j := 4) rfl
            have a5 := hx3.cell (j := 5) rfl
            have b0 := hr3.cell (j := 0) rfl
            have i0 := hi3.cell (j := 0) rfl
            have hfin : ReadPost (a :: b :: c :: d :: e :: k :: q) w (.returned (.tuple #[.agg #[.int .i64 a, .int .i64 b, .int .i64 c, .int .i64 d, .int .i64 e, .slice A9 n9 c9], .string (bstr (q.drop (4 * k))), .bool true])) wF :=
              ⟨hb3, .inr ⟨by rw [hac'.out]; omega, _, by rw [hac'.out, hdr'.out]; rfl, hO3⟩⟩
            have hfin' := Lib.hid hfin
            clear hfin hi3 hx3 hr3 hO3 hb3 hx2 hi2 hr2 hO2 hb2 hg2 hg3 hR1' hO1' hac' hdr'
            simp [Leaves, settle, results, Tryz.results85, go_sem, a0, a1, a2, a3, a4, a5, b0, i0]
            exact hfin'.out
  · have hR2 := Lib.hid (hR1.act hst (fun k hk => by omega) hx2)
    have hz : actLen l = 0 := by unfold actLen; rw [if_pos (by omega)]
    have hz' := Lib.hid hz
    clear hR1 hG1 hpt hst hx2 hz h5
    go_wp2_with fail
    refine leaves_cons (f := 144) (args := #[.pointer (some ⟨w.heap.size, 0, none⟩), .pointer (some ⟨w.heap.size + 1, 0, none⟩), .pointer (some ⟨w.heap.size + 1 + 1, 0, none⟩), .pointer (some ⟨w.heap.size + 1 + 1 + 1, 0, none⟩)]) (by simp) (by simp [go_sem]) ?_
    refine (rdCaught _ (hR2.out).hs (hR2.out).hx hcs (hR2.out).hr (hR2.out).hi 181 (.agg #[]) []).mono ?_
    rintro e u' w9 ⟨rfl, rfl, hx9, hr9, hi9, hst9⟩
    have a0 := hx9.cell (j := 0) rfl
    have a1 := hx9.cell (j := 1) rfl
    have a2 := hx9.cell (j := 2) rfl
    have a3 := hx9.cell (j := 3) rfl
    have a4 := hx9.cell (j := 4) rfl
    have a5 := hx9.cell (j := 5) rfl
    have b0 := hr9.cell (j := 0) rfl
    have i0 := hi9.cell (j := 0) rfl
    have hfin : ReadPost l w (.returned (.tuple #[.agg #[.int .i64 0, .int .i64 0, .int .i64 0, .int .i64 0, .int .i64 0, .slice none 0 0], .string (bstr l), .bool false])) w9 :=
      ⟨(hR2.out).below.trans (hst9.below (B := w.heap.size) (fun k hk => by omega) (hR2.out).below.size), .inl ⟨hz'.out, rfl⟩⟩
    have hfin' := Lib.hid hfin
    clear hfin hx9 hr9 hi9 hst9
    simp [Leaves, settle, results, Tryz.results85, go_sem, a0, a1, a2, a3, a4, a5, b0, i0]
    exact hfin'.out
end Wh
namespace Wh
open Go Go.RowKit Go.Shelf Go.Proofs
attribute [local go_sem] run_indexAt_letter evL_tmp evL_const evL_func

def cActV (x : Deed × Value) : List Value := [.int .i64 x.1.kind, .int .i64 x.1.a, .int .i64 x.1.b, .int .i64 x.1.c, .int .i64 x.1.n, x.2]
theorem infoAct : Elem Tryz.prog 34 (.agg #[.int .i64 0, .int .i64 0, .int .i64 0, .int .i64 0, .int .i64 0, .slice none 0 0]) 6 64 := elem_of (by kernel_rfl)
theorem cells_new2 (w : World) (cs : Array Value) (e : TypeId) : ∀ j u, cs.toList[j]? = some u → ((w.alloc (.cells cs e)).alloc (.cells cs e)).cell? ((⟨w.heap.size + 1, 0, none⟩ : Addr).add j) = some u := fun j u hj => by
  have h := cells_new (w.alloc (.cells cs e)) cs e j u hj
  rw [World.size_alloc] at h
  exact h
/-- Acts that a call owns, and their lines. -/
def ActsV (w : World) (base : Nat) (v : Value) (l : List Deed) : Prop := ∃ ps : List (Deed × Value), ps.map (·.1) = l ∧ Own cActV 6 34 w base v ps ∧ ∀ x ∈ ps, Own cLine 4 44 w base x.2 x.1.lines
theorem ActsV.below {w w' : World} {base : Nat} {v : Value} {l : List Deed} (h : ActsV w base v l) (hb : Below w.heap.size w w') : ActsV w' base v l := by
  obtain ⟨ps, h1, h2, h3⟩ := h
  exact ⟨ps, h1, h2.below hb, fun x hx => (h3 x hx).below hb⟩
theorem ActsV.nil {w : World} {base : Nat} : ActsV w base (.slice none 0 0) [] := ⟨[], rfl, Own.nil, fun x hx => by cases hx⟩
theorem ActsV.isSlice {w : World} {base : Nat} {v : Value} {l : List Deed} (h : ActsV w base v l) : ∃ A c, v = .slice A l.length c := by
  obtain ⟨ps, h1, h2, h3⟩ := h
  obtain ⟨A, c, e⟩ := h2.isSlice
  exact ⟨A, c, by rw [e, ← h1, List.length_map]⟩
theorem ActsV.from_ {w : World} {base base' : Nat} {v : Value} {l : List Deed} (h : ActsV w base v l) (hb : base' ≤ base) : ActsV w base' v l := by
  obtain ⟨ps, h1, h2, h3⟩ := h
  exact ⟨ps, h1, h2.from_ hb, fun x hx => (h3 x hx).from_ hb⟩
theorem replay_stop {n : Nat} {t : List Nat} (h : n = 0 ∨ actLen t = 0) : replay n t = ([], 0) := by
  rcases n with _ | n
  · rfl
  · rw [replay, if_pos (by omega)]
theorem replay_step {n : Nat} {t : List Nat} (h : actLen t ≠ 0) : replay (n + 1) t = (actFrom t :: (replay n (t.drop (actLen t))).1, actLen t + (replay n (t.drop (actLen t))).2) := by
  rw [replay, if_neg h]

set_option maxHeartbeats 8000000 in
set_option maxRecDepth 100000 in
theorem lgReplay (w : World) (t : List Nat) (hb : ∀ n ∈ t, n < 256) : Calls Tryz.prog 30 #[.string (bstr t)] w fun e w' =>
    ∃ v, e = .returned (.tuple #[v, .int .i64 (replayE t).2.1, .int .i64 (replayE t).2.2]) ∧ ActsV w' w.heap.size v (replayE t).1 ∧ Below w.heap.size w w' := by
  have hb' := Lib.hid hb
  have hsz := bstr_size t
  clear hb
  go_enter Tryz.func30, Tryz.ntmps30
  by_cases hlong : 4096 < t.length
  · have hli : (4096 : Int) < (t.length : Int) := by omega
    have hfin := Lib.hid (show replayE t = ([], 0, 2) by unfold replayE; rw [if_pos hlong])
    clear hlong
    go_wp2_with fail
    exact bodyPost_ret (v := .tuple #[.slice none 0 0, .int .i64 0, .int .i64 2]) (by simp [results, Tryz.results30, go_sem]) rfl ⟨_, by rw [hfin.out], by rw [hfin.out]; exact ActsV.nil, Below.refl _ _⟩
  · have hli : ¬ (4096 : Int) < (t.length : Int) := by omega
    have hfin := Lib.hid (show replayE t = ((replay 60 t).1, ((replay 60 t).2 : Int), 0) by unfold replayE; rw [if_neg hlong])
    go_wp2_with fail
    go_loopg [5, 6] 60 (fun gk lv sv wr => ∃ (done : List Deed) (rem : List Nat), gk = 60 - done.length ∧ done.length ≤ 60 ∧ sv = .string (bstr rem) ∧ ActsV wr w.heap.size lv done ∧ rem.length ≤ t.length ∧ (∀ n ∈ rem, n < 256) ∧
      replay 60 t = (done ++ (replay (60 - done.length) rem).1, (t.length - rem.length) + (replay (60 - done.length) rem).2) ∧ Below w.heap.size w wr)
    case atStart => exact ⟨[], t, rfl, by simp, rfl, ActsV.nil, Nat.le_refl _, hb'.out, by simp, Below.refl _ _⟩
    case round =>
      obtain ⟨done, rem, hgk, hd, rfl, hA, hrl, hrb, heq, hB⟩ := hrel
      obtain ⟨Al, cl, rfl⟩ := hA.isSlice
      have heq' := Lib.hid heq
      have hA' := Lib.hid hA
      have hrb' := Lib.hid hrb
      have hgk' := Lib.hid hgk
      have hsr := bstr_size rem
      have hw1 : IntKind.i64.wrap ((t.length : Int) - (rem.length : Int)) = (t.length : Int) - (rem.length : Int) := IntWalk.i64_in _ (by omega)
      clear heq hA hrb hgk
      by_cases h60 : done.length < 60
      · have h6i : (done.length : Int) < 60 := by omega
        go_wp2_with fail
        refine (lgRead wr rem hrb'.out).mono ?_
        rintro e W1 ⟨h1, ⟨hz, rfl⟩ | ⟨hnz, vl, rfl, hO⟩⟩
        · have hA1 := Lib.hid (hA'.out.below h1)
          have hB1 := hB.trans (h1.mono hB.size)
          have hz' := Lib.hid hz
          have hA2 := Lib.hid (hA1.out.below ((Below.refl W1.heap.size W1).alloc (Nat.le_refl _) (.cells #[.int .i64 0, .int .i64 0, .int .i64 0, .int .i64 0, .int .i64 0, .slice none 0 0] 34)))
          have hB2 := hB1.alloc hB1.size (.cells #[.int .i64 0, .int .i64 0, .int .i64 0, .int .i64 0, .int .i64 0, .slice none 0 0] 34)
          clear hA' hz h1
          have hq : replay 60 t = (done, t.length - rem.length) := by
            rw [heq'.out, replay_stop (.inr hz'.out)]
            simp
          have hf1 := Lib.hid (show replayE t = (done, ((t.length : Int) - (rem.length : Int)), 0) by
            rw [hfin.out, hq]
            simp only [Prod.mk.injEq, and_true, true_and]
            omega)
          clear hq
          go_wp2_with fail
          exact bodyPost_ret (v := .tuple #[.slice Al done.length cl, .int .i64 ((t.length : Int) - (rem.length : Int)), .int .i64 0]) (by simp [results, Tryz.results30, go_sem]) rfl ⟨_, by rw [hf1.out], by rw [hf1.out]; exact hA2.out, hB2⟩
        · obtain ⟨A2, c2, hvl⟩ := hO.isSlice
          obtain ⟨n2, hn2⟩ : ∃ n2, (actFrom rem).lines.length = n2 := ⟨_, rfl⟩
          rw [hn2] at hvl
          subst hvl
          obtain ⟨x, hx⟩ : ∃ x, actFrom rem = x := ⟨_, rfl⟩
          obtain ⟨rem2, hrem2⟩ : ∃ rem2, rem.drop (actLen rem) = rem2 := ⟨_, rfl⟩
          have hle := actLen_le rem
          have hl2 : rem2.length ≤ t.length := by rw [← hrem2, List.length_drop]; omega
          have hrb2 := Lib.hid (show ∀ n ∈ rem2, n < 256 from fun n hn => hrb'.out n (by rw [← hrem2] at hn; exact List.mem_of_mem_drop hn))
          have heq2 := Lib.hid (show replay 60 t = ((done ++ [x]) ++ (replay (60 - (done ++ [x]).length) rem2).1, (t.length - rem2.length) + (replay (60 - (done ++ [x]).length) rem2).2) by
            have e1 : 60 - done.length = (60 - (done ++ [x]).length) + 1 := by rw [List.length_append]; simp only [List.length_cons, List.length_nil]; omega
            rw [heq'.out, e1, replay_step hnz, hx, hrem2, List.append_assoc, List.singleton_append]
            simp only [Prod.mk.injEq, true_and]
            rw [← hrem2, List.length_drop]
            omega)
          rw [hx, hrem2]
          rw [hx] at hO
          have hA1 := Lib.hid (hA'.out.below h1)
          have hB1 := hB.trans (h1.mono hB.size)
          have hO1 := Lib.hid (hO.from_ hB.size)
          clear hx hrem2 hn2 hO h1 hA' hnz hle
          obtain ⟨ps, hps, hown, hlin⟩ := hA1.out
          have hown' := Lib.hid hown
          have hlin' := Lib.hid hlin
          have hps' := Lib.hid hps
          have hpl : ps.length ≤ 1000000 := by have := congrArg List.length hps; rw [List.length_map] at this; omega
          have hbs := hB1.size
          have hpe : ps.length = done.length := by rw [← hps, List.length_map]
          clear hown hlin hps hpe
          go_wp2_with (refine wpList_push _ rfl (.tmp 25) (.tmp 27) 63 34 rfl w.heap.size _ 6 64 Tryz.underlying63 infoAct rfl (by decide) (by decide) (.slice Al done.length cl) ps (x, .slice A2 n2 c2) rfl ((hown'.out.alloc _).alloc _) ⟨W1.heap.size + 1, 0, none⟩ 1 rfl rfl (cells_new2 _ _ _) (by simp [cActV, Value.oneCell']) hpl (by rw [World.size_alloc, World.size_alloc]; omega) (fun v9 w9 ho9 hg9 hv9 hb9 => ?_); refine Hid.out ?_)
          unfold Hid
          have hb2 : Below W1.heap.size W1 ((W1.alloc (.cells #[.int .i64 x.kind, .int .i64 x.a, .int .i64 x.b, .int .i64 x.c, .int .i64 x.n, .slice A2 n2 c2] 34)).alloc (.cells #[.int .i64 x.kind, .int .i64 x.a, .int .i64 x.b, .int .i64 x.c, .int .i64 x.n, .slice A2 n2 c2] 34)) := ((Below.refl _ _).alloc (Nat.le_refl _) _).alloc (by simp) _
          have hA9 := Lib.hid (show ActsV w9 w.heap.size v9 (done ++ [x]) from ⟨ps ++ [(x, .slice A2 n2 c2)], by rw [List.map_append, hps'.out]; rfl, ho9, fun y hy => by
            have hy1 : Own cLine 4 44 W1 w.heap.size y.2 y.1.lines := by
              rcases List.mem_append.1 hy with h | h
              · exact hlin'.out y h
              · rw [List.mem_singleton] at h
                subst h
                exact hO1.out
            exact (hy1.below hb2).kept hg9 (Own.apart (hy1.below hb2) (hown'.out.below hb2) (by decide))⟩)
          have hB9 := hB1.trans (hb2.mono hB1.size) |>.trans hb9
          clear ho9 hg9 hv9 hb9 hb2 hown' hlin' hps' hA1 hO1 hB1
          go_wp2_with fail
          go_roundg (60 - (done ++ [x]).length)
          case rel => exact ⟨done ++ [x], rem2, rfl, by rw [List.length_append]; simp only [List.length_cons, List.length_nil]; omega, rfl, hA9.out, hl2, hrb2.out, heq2.out, hB9⟩
          case measure => rw [hgk'.out, List.length_append]; simp only [List.length_cons, List.length_nil]; omega
      · have h6i : ¬ (done.length : Int) < 60 := by omega
        have h60' : 60 - done.length = 0 := by omega
        have hq : replay 60 t = (done, t.length - rem.length) := by
          rw [heq'.out, replay_stop (.inl h60')]
          simp
        have hf1 := Lib.hid (show replayE t = (done, ((t.length : Int) - (rem.length : Int)), 0) by
          rw [hfin.out, hq]
          simp only [Prod.mk.injEq, and_true, true_and]
          omega)
        clear hq
        go_wp2_with fail
        exact bodyPost_ret (v := .tuple #[.slice Al done.length cl, .int .i64 ((t.length : Int) - (rem.length : Int)), .int .i64 0]) (by simp [results, Tryz.results30, go_sem]) rfl ⟨_, by rw [hf1.out], by rw [hf1.out]; exact hA'.out, hB⟩
end Wh
