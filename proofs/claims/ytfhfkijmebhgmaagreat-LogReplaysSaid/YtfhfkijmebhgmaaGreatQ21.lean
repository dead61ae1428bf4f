/- Texts of the claim, joined: LogQ, LogR. -/
import Derived.RegionTactic
import Derived.Laws.Strings2
import Derived.Test.YtfhfkijmebhgmaaGreatQ20
import Derived.Test.YtfhfkijmebhgmaaGreatQ06
namespace Wh
open Go Go.RowKit Go.Shelf Go.Proofs
attribute [local go_sem] run_indexAt_letter evL_tmp evL_const evL_func

def FromPost (l : List Nat) (w : World) (e : Ending) (w' : World) : Prop :=
  Below w.heap.size w w' ∧ ((actLen l = 0 ∧ e = .returned (.tuple #[.agg #[.int .i64 0, .int .i64 0, .int .i64 0, .int .i64 0, .int .i64 0, .slice none 0 0], .int .i64 0])) ∨
    (actLen l ≠ 0 ∧ ∃ vl, e = .returned (.tuple #[.agg #[.int .i64 (actFrom l).kind, .int .i64 (actFrom l).a, .int .i64 (actFrom l).b, .int .i64 (actFrom l).c, .int .i64 (actFrom l).n, vl], .int .i64 (actLen l)]) ∧ Own cLine 4 44 w' w.heap.size vl (actFrom l).lines))
theorem byteAt_lt {l : List Nat} (h : ∀ n ∈ l, n < 256) (i : Nat) : byteAt l i < 256 := by
  unfold byteAt
  by_cases hi : i < l.length
  · rw [List.getD_eq_getElem?_getD, List.getElem?_eq_getElem hi]
    exact h _ (List.getElem_mem hi)
  · rw [List.getD_eq_getElem?_getD, List.getElem?_eq_none (by omega)]
    simp
theorem bstr_byte {l : List Nat} (hb : ∀ n ∈ l, n < 256) (i : Nat) (h : i < (bstr l).size) : (((bstr l)[i]'h).toNat : Int) = (byteAt l i : Int) := by
  have hi : i < l.length := by rw [bstr_size] at h; exact h
  have e : (bstr l)[i]'h = UInt8.ofNat l[i] := by
    show (bstr l).data[i] = _
    simp [bstr]
  have hn := hb _ (List.getElem_mem hi)
  rw [e]
  unfold byteAt
  rw [List.getD_eq_getElem?_getD, List.getElem?_eq_getElem hi]
  simp
  omega

theorem byteAt_drop (l : List Nat) (a j : Nat) : byteAt (l.drop a) j = byteAt l (a + j) := by
  unfold byteAt
  simp [List.getD]

set_option maxHeartbeats 8000000 in
set_option maxRecDepth 100000 in
theorem rActFrom (w : World) (l : List Nat) (hb : ∀ n ∈ l, n < 256) : Calls Tryz.prog 86 #[.string (bstr l)] w (FromPost l w) := by
  have hsz := bstr_size l
  have hget := bstr_byte hb
  have hb5 := byteAt_lt hb 5
  have hwi : ∀ i, wrap64 (byteAt l i : Int) = byteAt l i := fun i => by have := byteAt_lt hb i; unfold wrap64; omega
  have hwi2 : ∀ i, IntKind.i64.wrap (byteAt l i : Int) = byteAt l i := fun i => IntWalk.i64_in _ (by have := byteAt_lt hb i; omega)
  have hx0 : Blk (w.alloc (.cells #[.int .i64 0, .int .i64 0, .int .i64 0, .int .i64 0, .int .i64 0, .slice none 0 0] 34)) w.heap.size 34 [.int .i64 0, .int .i64 0, .int .i64 0, .int .i64 0, .int .i64 0, .slice none 0 0] := Blk.new _ _ _
  have hB0 : Below w.heap.size w (w.alloc (.cells #[.int .i64 0, .int .i64 0, .int .i64 0, .int .i64 0, .int .i64 0, .slice none 0 0] 34)) := (Below.refl _ _).alloc (Nat.le_refl _) _
  have hb' := Lib.hid hb
  have hx0' := Lib.hid hx0
  clear hb hx0
  go_enter Tryz.func86, Tryz.ntmps86
  by_cases h6 : l.length < 6
  · have h6i : (l.length : Int) < 6 := by omega
    have hz := Lib.hid (show actLen l = 0 by unfold actLen; rw [if_pos h6])
    clear hget hb5 hwi hwi2
    go_wp2_with (refine wpList_store_row rfl 34 (.tmp 2) (.tmp 10) rfl w.heap.size #[.int .i64 0, .int .i64 0, .int .i64 0, .int .i64 0, .int .i64 0, .slice none 0 0] rfl rfl 34 #[.int .i64 0, .int .i64 0, .int .i64 0, .int .i64 0, .int .i64 0, .slice none 0 0] hx0'.out (by kernel_rfl) rfl (by simp [Value.oneCell']) ?_; refine Hid.out ?_)
    unfold Hid
    have hx9 : Blk ((w.alloc (.cells #[.int .i64 0, .int .i64 0, .int .i64 0, .int .i64 0, .int .i64 0, .slice none 0 0] 34)).setRow w.heap.size #[.int .i64 0, .int .i64 0, .int .i64 0, .int .i64 0, .int .i64 0, .slice none 0 0]) w.heap.size 34 [.int .i64 0, .int .i64 0, .int .i64 0, .int .i64 0, .int .i64 0, .slice none 0 0] := Blk.row hx0'.out [.int .i64 0, .int .i64 0, .int .i64 0, .int .i64 0, .int .i64 0, .slice none 0 0]
    have hB9 := below_row hB0 (Nat.le_refl w.heap.size) #[.int .i64 0, .int .i64 0, .int .i64 0, .int .i64 0, .int .i64 0, .slice none 0 0]
    generalize (w.alloc (.cells #[.int .i64 0, .int .i64 0, .int .i64 0, .int .i64 0, .int .i64 0, .slice none 0 0] 34)).setRow w.heap.size #[.int .i64 0, .int .i64 0, .int .i64 0, .int .i64 0, .int .i64 0, .slice none 0 0] = w9 at hx9 hB9 ⊢
    have a0 := hx9.cell (j := 0) rfl
    have a1 := hx9.cell (j := 1) rfl
    have a2 := hx9.cell (j := 2) rfl
    have a3 := hx9.cell (j := 3) rfl
    have a4 := hx9.cell (j := 4) rfl
    have a5 := hx9.cell (j := 5) rfl
    go_wp2_with fail
    exact bodyPost_ret (v := .tuple #[.agg #[.int .i64 0, .int .i64 0, .int .i64 0, .int .i64 0, .int .i64 0, .slice none 0 0], .int .i64 0]) (by simp [results, Tryz.results86, go_sem, a0, a1, a2, a3, a4, a5]) rfl ⟨hB9, .inl ⟨hz.out, rfl⟩⟩
  · have h6i : ¬ (l.length : Int) < 6 := by omega
    have h5i : (5 : Int) < (l.length : Int) := by omega
    have hw1 : IntKind.i64.wrap (4 * (byteAt l 5 : Int)) = 4 * (byteAt l 5 : Int) := IntWalk.i64_in _ (by omega)
    have hw2 : IntKind.i64.wrap (6 + 4 * (byteAt l 5 : Int)) = 6 + 4 * (byteAt l 5 : Int) := IntWalk.i64_in _ (by omega)
    by_cases h3 : 3 < byteAt l 5
    · have h3i : (3 : Int) < (byteAt l 5 : Int) := by omega
      have hz := Lib.hid (show actLen l = 0 by unfold actLen; rw [if_neg h6, if_pos (.inl h3)])
      go_wp2_with (refine wpList_store_row rfl 34 (.tmp 2) (.tmp 25) rfl w.heap.size #[.int .i64 0, .int .i64 0, .int .i64 0, .int .i64 0, .int .i64 0, .slice none 0 0] rfl rfl 34 #[.int .i64 0, .int .i64 0, .int .i64 0, .int .i64 0, .int .i64 0, .slice none 0 0] hx0'.out (by kernel_rfl) rfl (by simp [Value.oneCell']) ?_; refine Hid.out ?_)
      unfold Hid
      have hx9 : Blk ((w.alloc (.cells #[.int .i64 0, .int .i64 0, .int .i64 0, .int .i64 0, .int .i64 0, .slice none 0 0] 34)).setRow w.heap.size #[.int .i64 0, .int .i64 0, .int .i64 0, .int .i64 0, .int .i64 0, .slice none 0 0]) w.heap.size 34 [.int .i64 0, .int .i64 0, .int .i64 0, .int .i64 0, .int .i64 0, .slice none 0 0] := Blk.row hx0'.out [.int .i64 0, .int .i64 0, .int .i64 0, .int .i64 0, .int .i64 0, .slice none 0 0]
      have hB9 := below_row hB0 (Nat.le_refl w.heap.size) #[.int .i64 0, .int .i64 0, .int .i64 0, .int .i64 0, .int .i64 0, .slice none 0 0]
      generalize (w.alloc (.cells #[.int .i64 0, .int .i64 0, .int .i64 0, .int .i64 0, .int .i64 0, .slice none 0 0] 34)).setRow w.heap.size #[.int .i64 0, .int .i64 0, .int .i64 0, .int .i64 0, .int .i64 0, .slice none 0 0] = w9 at hx9 hB9 ⊢
      have a0 := hx9.cell (j := 0) rfl
      have a1 := hx9.cell (j := 1) rfl
      have a2 := hx9.cell (j := 2) rfl
      have a3 := hx9.cell (j := 3) rfl
      have a4 := hx9.cell (j := 4) rfl
      have a5 := hx9.cell (j := 5) rfl
      go_wp2_with fail
      exact bodyPost_ret (v := .tuple #[.agg #[.int .i64 0, .int .i64 0, .int .i64 0, .int .i64 0, .int .i64 0, .slice none 0 0], .int .i64 0]) (by simp [results, Tryz.results86, go_sem, a0, a1, a2, a3, a4, a5]) rfl ⟨hB9, .inl ⟨hz.out, rfl⟩⟩
    · have h3i : ¬ (3 : Int) < (byteAt l 5 : Int) := by omega
      by_cases hn : l.length < 6 + 4 * byteAt l 5
      · have hni : (l.length : Int) < 6 + 4 * (byteAt l 5 : Int) := by omega
        have hz := Lib.hid (show actLen l = 0 by unfold actLen; rw [if_neg h6, if_pos (.inr hn)])
        go_wp2_with (refine wpList_store_row rfl 34 (.tmp 2) (.tmp 25) rfl w.heap.size #[.int .i64 0, .int .i64 0, .int .i64 0, .int .i64 0, .int .i64 0, .slice none 0 0] rfl rfl 34 #[.int .i64 0, .int .i64 0, .int .i64 0, .int .i64 0, .int .i64 0, .slice none 0 0] hx0'.out (by kernel_rfl) rfl (by simp [Value.oneCell']) ?_; refine Hid.out ?_)
        unfold Hid
        have hx9 : Blk ((w.alloc (.cells #[.int .i64 0, .int .i64 0, .int .i64 0, .int .i64 0, .int .i64 0, .slice none 0 0] 34)).setRow w.heap.size #[.int .i64 0, .int .i64 0, .int .i64 0, .int .i64 0, .int .i64 0, .slice none 0 0]) w.heap.size 34 [.int .i64 0, .int .i64 0, .int .i64 0, .int .i64 0, .int .i64 0, .slice none 0 0] := Blk.row hx0'.out [.int .i64 0, .int .i64 0, .int .i64 0, .int .i64 0, .int .i64 0, .slice none 0 0]
        have hB9 := below_row hB0 (Nat.le_refl w.heap.size) #[.int .i64 0, .int .i64 0, .int .i64 0, .int .i64 0, .int .i64 0, .slice none 0 0]
        generalize (w.alloc (.cells #[.int .i64 0, .int .i64 0, .int .i64 0, .int .i64 0, .int .i64 0, .slice none 0 0] 34)).setRow w.heap.size #[.int .i64 0, .int .i64 0, .int .i64 0, .int .i64 0, .int .i64 0, .slice none 0 0] = w9 at hx9 hB9 ⊢
        have a0 := hx9.cell (j := 0) rfl
        have a1 := hx9.cell (j := 1) rfl
        have a2 := hx9.cell (j := 2) rfl
        have a3 := hx9.cell (j := 3) rfl
        have a4 := hx9.cell (j := 4) rfl
        have a5 := hx9.cell (j := 5) rfl
        go_wp2_with fail
        exact bodyPost_ret (v := .tuple #[.agg #[.int .i64 0, .int .i64 0, .int .i64 0, .int .i64 0, .int .i64 0, .slice none 0 0], .int .i64 0]) (by simp [results, Tryz.results86, go_sem, a0, a1, a2, a3, a4, a5]) rfl ⟨hB9, .inl ⟨hz.out, rfl⟩⟩
      · have hni : ¬ (l.length : Int) < 6 + 4 * (byteAt l 5 : Int) := by omega
        have hal := Lib.hid (show actLen l = 6 + 4 * byteAt l 5 by unfold actLen; rw [if_neg h6, if_neg (by omega)])
        have i0 : (0 : Int) < (l.length : Int) := by omega
        have i1 : (1 : Int) < (l.length : Int) := by omega
        have i2 : (2 : Int) < (l.length : Int) := by omega
        have i3 : (3 : Int) < (l.length : Int) := by omega
        have i4 : (4 : Int) < (l.length : Int) := by omega
        go_wp2_with fail
        go_region
        have hx1 : Blk (((w.alloc (.cells #[.int .i64 0, .int .i64 0, .int .i64 0, .int .i64 0, .int .i64 0, .slice none 0 0] 34)).alloc (.cells #[.int .i64 (byteAt l 0), .int .i64 (byteAt l 1), .int .i64 (byteAt l 2), .int .i64 (byteAt l 3), .int .i64 (byteAt l 4), .slice none 0 0] 34)).drew) (w.heap.size + 1) 34 [.int .i64 (byteAt l 0), .int .i64 (byteAt l 1), .int .i64 (byteAt l 2), .int .i64 (byteAt l 3), .int .i64 (byteAt l 4), .slice none 0 0] := by
          have h := Blk.new (w.alloc (.cells #[.int .i64 0, .int .i64 0, .int .i64 0, .int .i64 0, .int .i64 0, .slice none 0 0] 34)) 34 #[.int .i64 (byteAt l 0), .int .i64 (byteAt l 1), .int .i64 (byteAt l 2), .int .i64 (byteAt l 3), .int .i64 (byteAt l 4), .slice none 0 0]
          rw [World.size_alloc] at h
          exact h
        have hx0'' := hx0'.out.alloc (.cells #[.int .i64 (byteAt l 0), .int .i64 (byteAt l 1), .int .i64 (byteAt l 2), .int .i64 (byteAt l 3), .int .i64 (byteAt l 4), .slice none 0 0] 34) |>.drew
        have hB1 := (hB0.alloc hB0.size (.cells #[.int .i64 (byteAt l 0), .int .i64 (byteAt l 1), .int .i64 (byteAt l 2), .int .i64 (byteAt l 3), .int .i64 (byteAt l 4), .slice none 0 0] 34)).drew
        generalize ((w.alloc (.cells #[.int .i64 0, .int .i64 0, .int .i64 0, .int .i64 0, .int .i64 0, .slice none 0 0] 34)).alloc (.cells #[.int .i64 (byteAt l 0), .int .i64 (byteAt l 1), .int .i64 (byteAt l 2), .int .i64 (byteAt l 3), .int .i64 (byteAt l 4), .slice none 0 0] 34)).drew = W1 at hx1 hx0'' hB1 ⊢
        have hxz := Lib.hid hx0''
        have hxa := Lib.hid hx1
        clear hx0' hB0 hx1 hx0'' i0 i1 i2 i3 i4
        obtain ⟨b5, hb5e⟩ : ∃ b5, byteAt l 5 = b5 := ⟨_, rfl⟩
        rw [hb5e] at hal hb5 hw1 hw2 h3 h3i hn hni ⊢
        have hb5' := Lib.hid hb5e
        clear hb5e
        go_wp2_with fail
        go_loopw [6] (fun i wr => ∃ (k : Nat) (vl : Value), k ≤ b5 ∧ i = .int .i64 ((6 + 4 * k : Nat) : Int) ∧ Blk wr w.heap.size 34 [.int .i64 0, .int .i64 0, .int .i64 0, .int .i64 0, .int .i64 0, .slice none 0 0] ∧ Blk wr (w.heap.size + 1) 34 [.int .i64 (byteAt l 0), .int .i64 (byteAt l 1), .int .i64 (byteAt l 2), .int .i64 (byteAt l 3), .int .i64 (byteAt l 4), vl] ∧ Own cLine 4 44 wr w.heap.size vl (linesOf (l.drop 6) k) ∧ Below w.heap.size w wr) (fun i _ => 6 + 4 * b5 - (RowKit.intOf i).toNat)
        case atStart => exact ⟨0, _, Nat.zero_le _, rfl, hxz.out, hxa.out, Own.nil, hB1⟩
        case round =>
          clear hxz hxa hB1
          obtain ⟨k, vl, hk, rfl, hxz, hxa, hO, hBr⟩ := hrel
          obtain ⟨A1, c1, hv1⟩ := hO.isSlice
          obtain ⟨n1, hn1⟩ : ∃ n1, (linesOf (l.drop 6) k).length = n1 := ⟨_, rfl⟩
          rw [hn1] at hv1
          subst hv1
          have hlen : (linesOf (l.drop 6) k).length = k := by
            have : ∀ (m : Nat) (t : List Nat), (linesOf t m).length = m := fun m => by
              induction m with
              | zero => intro t; rfl
              | succ m ih => intro t; rw [linesOf, List.length_cons, ih]
            exact this _ _
          have hxz' := Lib.hid hxz
          have hxa' := Lib.hid hxa
          have hO' := Lib.hid hO
          clear hxz hxa hO hn1
          obtain ⟨m, hm⟩ : ∃ m, 6 + 4 * k = m := ⟨_, rfl⟩
          rw [hm]
          by_cases hlt : k < b5
          · have hmi : (m : Int) < 6 + 4 * (b5 : Int) := by omega
            have j0 : (m : Int) < (l.length : Int) := by omega
            have j1 : (m : Int) + 1 < (l.length : Int) := by omega
            have j2 : (m : Int) + 2 < (l.length : Int) := by omega
            have j3 : (m : Int) + 3 < (l.length : Int) := by omega
            have g1 : (0 : Int) ≤ (m : Int) + 1 := by omega
            have g2 : (0 : Int) ≤ (m : Int) + 2 := by omega
            have g3 : (0 : Int) ≤ (m : Int) + 3 := by omega
            have v1 : ((m : Int) + 1).toNat = m + 1 := by omega
            have v2 : ((m : Int) + 2).toNat = m + 2 := by omega
            have v3 : ((m : Int) + 3).toNat = m + 3 := by omega
            have u1 : IntKind.i64.wrap ((m : Int) + 1) = (m : Int) + 1 := IntWalk.i64_in _ (by omega)
            have u2 : IntKind.i64.wrap ((m : Int) + 2) = (m : Int) + 2 := IntWalk.i64_in _ (by omega)
            have u3 : IntKind.i64.wrap ((m : Int) + 3) = (m : Int) + 3 := IntWalk.i64_in _ (by omega)
            have u4 : IntKind.i64.wrap ((m : Int) + 4) = (m : Int) + 4 := IntWalk.i64_in _ (by omega)
            have hln := Lib.hid (show linesOf (l.drop 6) (k + 1) = linesOf (l.drop 6) k ++ [⟨byteAt l m, byteAt l (m + 1), byteAt l (m + 2), byteAt l (m + 3)⟩] by
              rw [linesOf_snoc, byteAt_drop, byteAt_drop, byteAt_drop, byteAt_drop, ← hm]
              rfl)
            have x5 := hxa'.out.cell (j := 5) rfl
            have lx := hxa'.out.lt
            have hbs := hBr.size
            go_wp2_with fail
            refine wp_region_ops 23 [fun gq _ => gq 47 = .pointer (some ⟨w.heap.size + 1, 5, none⟩), fun gq _ => gq 48 = .slice A1 n1 c1, fun gq _ => gq 49 = .string (bstr l), fun gq _ => gq 50 = .int .i64 m, fun gq _ => gq 51 = .int .u8 (byteAt l m), fun gq _ => gq 52 = .int .i64 (byteAt l m), fun gq _ => gq 53 = .string (bstr l), fun gq _ => gq 54 = .int .i64 m, fun gq _ => gq 55 = .int .i64 ((m : Int) + 1), fun gq _ => gq 56 = .int .u8 (byteAt l (m + 1)), fun gq _ => gq 57 = .int .i64 (byteAt l (m + 1)), fun gq _ => gq 58 = .string (bstr l), fun gq _ => gq 59 = .int .i64 m, fun gq _ => gq 60 = .int .i64 ((m : Int) + 2), fun gq _ => gq 61 = .int .u8 (byteAt l (m + 2)), fun gq _ => gq 62 = .int .i64 (byteAt l (m + 2)), fun gq _ => gq 63 = .string (bstr l), fun gq _ => gq 64 = .int .i64 m, fun gq _ => gq 65 = .int .i64 ((m : Int) + 3), fun gq _ => gq 66 = .int .u8 (byteAt l (m + 3)), fun gq _ => gq 67 = .int .i64 (byteAt l (m + 3)), fun gq _ => gq 68 = .agg #[.int .i64 (byteAt l m), .int .i64 (byteAt l (m + 1)), .int .i64 (byteAt l (m + 2)), .int .i64 (byteAt l (m + 3))], fun gq w' => (fun v w' => ∃ bb, v = .slice (some ⟨bb, 0, none⟩) 1 1 ∧ Blk w' bb 44 [.int .i64 (byteAt l m), .int .i64 (byteAt l (m + 1)), .int .i64 (byteAt l (m + 2)), .int .i64 (byteAt l (m + 3))]) (gq 69) w'] (by kernel_rfl) (by kernel_rfl) rfl (by kernel_rfl) ?_ (fun f W2 hb2 hR => ?_)
            simp only [List.take_succ_cons, List.take_zero]
            refine OpsOK.cons (OpOK.val rfl rfl (fun gq w' hb ho hd => ?_)) ?_
            · have e5 := ho 5 rfl
              go_simp
            refine OpsOK.cons (OpOK.val rfl rfl (fun gq w' hb ho hd => ?_)) ?_
            · have e47 : gq 47 = .pointer (some ⟨w.heap.size + 1, 5, none⟩) := hd ⟨0, .data⟩ (by simp) rfl (by decide)
              have x5' := (hb.cell (p := ⟨w.heap.size + 1, 5, none⟩) lx).trans x5
              go_simp
            refine OpsOK.cons (OpOK.val rfl rfl (fun gq w' hb ho hd => ?_)) ?_
            · have e0 := ho 0 rfl
              go_simp
            refine OpsOK.cons (OpOK.val rfl rfl (fun gq w' hb ho hd => ?_)) ?_
            · have e6 := ho 6 rfl
              go_simp
            refine OpsOK.cons (OpOK.val rfl rfl (fun gq w' hb ho hd => ?_)) ?_
            · have e49 : gq 49 = .string (bstr l) := hd ⟨2, .data⟩ (by simp) rfl (by decide)
              have e50 : gq 50 = .int .i64 m := hd ⟨3, .data⟩ (by simp) rfl (by decide)
              go_simp
            refine OpsOK.cons (OpOK.val rfl rfl (fun gq w' hb ho hd => ?_)) ?_
            · have e51 : gq 51 = .int .u8 (byteAt l m) := hd ⟨4, .data⟩ (by simp) rfl (by decide)
              go_simp
            refine OpsOK.cons (OpOK.val rfl rfl (fun gq w' hb ho hd => ?_)) ?_
            · have e0 := ho 0 rfl
              go_simp
            refine OpsOK.cons (OpOK.val rfl rfl (fun gq w' hb ho hd => ?_)) ?_
            · have e6 := ho 6 rfl
              go_simp
            refine OpsOK.cons (OpOK.val rfl rfl (fun gq w' hb ho hd => ?_)) ?_
            · have e54 : gq 54 = .int .i64 m := hd ⟨7, .data⟩ (by simp) rfl (by decide)
              go_simp
            refine OpsOK.cons (OpOK.val rfl rfl (fun gq w' hb ho hd => ?_)) ?_
            · have e53 : gq 53 = .string (bstr l) := hd ⟨6, .data⟩ (by simp) rfl (by decide)
              have e55 : gq 55 = .int .i64 ((m : Int) + 1) := hd ⟨8, .data⟩ (by simp) rfl (by decide)
              go_simp
            refine OpsOK.cons (OpOK.val rfl rfl (fun gq w' hb ho hd => ?_)) ?_
            · have e56 : gq 56 = .int .u8 (byteAt l (m + 1)) := hd ⟨9, .data⟩ (by simp) rfl (by decide)
              go_simp
            refine OpsOK.cons (OpOK.val rfl rfl (fun gq w' hb ho hd => ?_)) ?_
            · have e0 := ho 0 rfl
              go_simp
            refine OpsOK.cons (OpOK.val rfl rfl (fun gq w' hb ho hd => ?_)) ?_
            · have e6 := ho 6 rfl
              go_simp
            refine OpsOK.cons (OpOK.val rfl rfl (fun gq w' hb ho hd => ?_)) ?_
            · have e59 : gq 59 = .int .i64 m := hd ⟨12, .data⟩ (by simp) rfl (by decide)
              go_simp
            refine OpsOK.cons (OpOK.val rfl rfl (fun gq w' hb ho hd => ?_)) ?_
            · have e58 : gq 58 = .string (bstr l) := hd ⟨11, .data⟩ (by simp) rfl (by decide)
              have e60 : gq 60 = .int .i64 ((m : Int) + 2) := hd ⟨13, .data⟩ (by simp) rfl (by decide)
              go_simp
            refine OpsOK.cons (OpOK.val rfl rfl (fun gq w' hb ho hd => ?_)) ?_
            · have e61 : gq 61 = .int .u8 (byteAt l (m + 2)) := hd ⟨14, .data⟩ (by simp) rfl (by decide)
              go_simp
            refine OpsOK.cons (OpOK.val rfl rfl (fun gq w' hb ho hd => ?_)) ?_
            · have e0 := ho 0 rfl
              go_simp
            refine OpsOK.cons (OpOK.val rfl rfl (fun gq w' hb ho hd => ?_)) ?_
            · have e6 := ho 6 rfl
              go_simp
            refine OpsOK.cons (OpOK.val rfl rfl (fun gq w' hb ho hd => ?_)) ?_
            · have e64 : gq 64 = .int .i64 m := hd ⟨17, .data⟩ (by simp) rfl (by decide)
              go_simp
            refine OpsOK.cons (OpOK.val rfl rfl (fun gq w' hb ho hd => ?_)) ?_
            · have e63 : gq 63 = .string (bstr l) := hd ⟨16, .data⟩ (by simp) rfl (by decide)
              have e65 : gq 65 = .int .i64 ((m : Int) + 3) := hd ⟨18, .data⟩ (by simp) rfl (by decide)
              go_simp
            refine OpsOK.cons (OpOK.val rfl rfl (fun gq w' hb ho hd => ?_)) ?_
            · have e66 : gq 66 = .int .u8 (byteAt l (m + 3)) := hd ⟨19, .data⟩ (by simp) rfl (by decide)
              go_simp
            refine OpsOK.cons (OpOK.val rfl rfl (fun gq w' hb ho hd => ?_)) ?_
            · have e52 : gq 52 = .int .i64 (byteAt l m) := hd ⟨5, .data⟩ (by simp) rfl (by decide)
              have e57 : gq 57 = .int .i64 (byteAt l (m + 1)) := hd ⟨10, .data⟩ (by simp) rfl (by decide)
              have e62 : gq 62 = .int .i64 (byteAt l (m + 2)) := hd ⟨15, .data⟩ (by simp) rfl (by decide)
              have e67 : gq 67 = .int .i64 (byteAt l (m + 3)) := hd ⟨20, .data⟩ (by simp) rfl (by decide)
              go_simp
            refine OpsOK.cons (OpOK.one (d := 69) (p := (fun v w' => ∃ bb, v = .slice (some ⟨bb, 0, none⟩) 1 1 ∧ Blk w' bb 44 [.int .i64 (byteAt l m), .int .i64 (byteAt l (m + 1)), .int .i64 (byteAt l (m + 2)), .int .i64 (byteAt l (m + 3))])) rfl rfl (fun v w1 w2 h hb => let ⟨bb, h1, h2⟩ := h; ⟨bb, h1, h2.below hb h2.lt⟩) (fun gq w' hb ho hd => ?_)) ?_
            · have e68 : gq 68 = .agg #[.int .i64 (byteAt l m), .int .i64 (byteAt l (m + 1)), .int .i64 (byteAt l (m + 2)), .int .i64 (byteAt l (m + 3))] := hd ⟨21, .data⟩ (by simp) rfl (by decide)
              unfold OpRel
              go_simp
              exact ⟨Blk.new _ _ _, (Below.refl _ _).alloc (Nat.le_refl _) _⟩
            exact OpsOK.nil
            obtain ⟨r47, r48, r49, r50, r51, r52, r53, r54, r55, r56, r57, r58, r59, r60, r61, r62, r63, r64, r65, r66, r67, r68, r69, _⟩ := hR
            replace r69 : ∃ bb, (f 69) = .slice (some ⟨bb, 0, none⟩) 1 1 ∧ Blk W2 bb 44 [.int .i64 (byteAt l m), .int .i64 (byteAt l (m + 1)), .int .i64 (byteAt l (m + 2)), .int .i64 (byteAt l (m + 3))] := r69
            simp only [fillA, fillT, List.take_succ_cons, List.take_zero, List.drop_succ_cons, List.drop_zero, List.filterMap_cons, List.filterMap_nil, List.foldl_cons, List.foldl_nil, List.setIfInBounds_toArray, List.set_cons_zero, List.set_cons_succ, r47, r48, r49, r50, r51, r52, r53, r54, r55, r56, r57, r58, r59, r60, r61, r62, r63, r64, r65, r66, r67, r68]
            clear r47 r48 r49 r50 r51 r52 r53 r54 r55 r56 r57 r58 r59 r60 r61 r62 r63 r64 r65 r66 r67 r68
            obtain ⟨bb, r69, hbb⟩ := r69
            simp only [r69]
            clear r69
            have hO2 := Lib.hid (hO'.out.below hb2)
            have hz2 := Lib.hid (hxz'.out.below hb2 hxz'.out.lt)
            have ha2 := Lib.hid (hxa'.out.below hb2 lx)
            have hB2 := hBr.trans (hb2.mono hBr.size)
            have hs2 := hb2.size
            have hbb' := Lib.hid hbb
            clear hbb hO' hxz' hxa' hb2 x5 lx
            refine wpList_push _ rfl (.tmp 48) (.tmp 69) 32 44 rfl w.heap.size _ 4 32 Tryz.underlying32 infoLine rfl (by decide) (by decide) (.slice A1 n1 c1) (linesOf (l.drop 6) k) ⟨byteAt l m, byteAt l (m + 1), byteAt l (m + 2), byteAt l (m + 3)⟩ rfl hO2.out ⟨bb, 0, none⟩ 1 rfl rfl (fun j u hj => by rw [Addr.add_lit, Nat.zero_add]; exact hbb'.out.cell hj) (oneLine _) (by omega) (by omega) ?_
            intro v9 w9 ho9 hg9 hv9 hb9
            obtain ⟨A9, c9, hv9e⟩ := ho9.isSlice
            obtain ⟨n9, hn9⟩ : ∃ n9, (linesOf (l.drop 6) k ++ [(⟨byteAt l m, byteAt l (m + 1), byteAt l (m + 2), byteAt l (m + 3)⟩ : Line)]).length = n9 := ⟨_, rfl⟩
            rw [hn9] at hv9e
            subst hv9e
            have key : ∀ {g : Nat} {t : TypeId} {cur : List Value}, Blk W2 g t cur → 44 ≠ t → Blk w9 g t cur := fun hk hne => hk.grown hg9 (by
              rcases Own.notBox hO2.out hk hne with hn | hn
              · rw [hn]; intro he; cases he
              · exact fun he => hn he.symm)
            have hz9 := key hz2.out (by decide)
            have ha9 := key ha2.out (by decide)
            obtain ⟨ha10, hg10⟩ := set_row ha9 5 (.slice A9 n9 c9)
            have hz10 := Lib.hid (hz9.grown hg10 (by intro he; injection he with he; omega))
            have ha10' := Lib.hid (show Blk (w9.setCell ⟨w.heap.size + 1, 5, none⟩ (.slice A9 n9 c9)) (w.heap.size + 1) 34 [.int .i64 (byteAt l 0), .int .i64 (byteAt l 1), .int .i64 (byteAt l 2), .int .i64 (byteAt l 3), .int .i64 (byteAt l 4), .slice A9 n9 c9] from ha10)
            have ho10 := Lib.hid (show Own cLine 4 44 (w9.setCell ⟨w.heap.size + 1, 5, none⟩ (.slice A9 n9 c9)) w.heap.size (.slice A9 n9 c9) (linesOf (l.drop 6) (k + 1)) by
              rw [hln.out]
              exact ho9.kept hg10 (Own.notBox ho9 ha9 (by decide)))
            have hB9 := hB2.trans hb9
            have hB10 := hB9.grown hg10 hB9.size (fun j hj => by injection hj with hj; omega)
            have b5c := ha9.cell (j := 5) rfl
            have f5c := ha9.frozen 5
            have l5c := ha9.lt
            clear ho9 hg9 hb9 hn9 hz9 ha9 ha10 hg10 hO2 hz2 ha2 hB2 hbb' hv9 hln hlen key hB9
            go_wp2_with fail
            clear b5c f5c l5c
            generalize w9.setCell ⟨w.heap.size + 1, 5, none⟩ (.slice A9 n9 c9) = w10 at hz10 ha10' ho10 hB10 ⊢
            try go_wp2_with fail
            go_roundw
            case rel => exact ⟨k + 1, _, by omega, by rw [show ((6 + 4 * (k + 1) : Nat) : Int) = (m : Int) + 4 by omega], hz10.out, ha10'.out, ho10.out, hB10⟩
            case measure => simp [RowKit.intOf]; omega
          · obtain rfl : k = b5 := by omega
            have hmi : ¬ (m : Int) < 6 + 4 * (k : Int) := by omega
            have x0 := hxa'.out.cell (j := 0) rfl
            have x1 := hxa'.out.cell (j := 1) rfl
            have x2 := hxa'.out.cell (j := 2) rfl
            have x3 := hxa'.out.cell (j := 3) rfl
            have x4 := hxa'.out.cell (j := 4) rfl
            have x5 := hxa'.out.cell (j := 5) rfl
            have lx := hxa'.out.lt
            go_wp2_with (refine wpList_store_row rfl 34 (.tmp 2) (.tmp 72) rfl w.heap.size #[.int .i64 (byteAt l 0), .int .i64 (byteAt l 1), .int .i64 (byteAt l 2), .int .i64 (byteAt l 3), .int .i64 (byteAt l 4), .slice A1 n1 c1] rfl rfl 34 _ hxz'.out (by kernel_rfl) rfl (by simp [Value.oneCell']) ?_; refine Hid.out ?_)
            unfold Hid
            have hx9 : Blk (wr.setRow w.heap.size #[.int .i64 (byteAt l 0), .int .i64 (byteAt l 1), .int .i64 (byteAt l 2), .int .i64 (byteAt l 3), .int .i64 (byteAt l 4), .slice A1 n1 c1]) w.heap.size 34 [.int .i64 (byteAt l 0), .int .i64 (byteAt l 1), .int .i64 (byteAt l 2), .int .i64 (byteAt l 3), .int .i64 (byteAt l 4), .slice A1 n1 c1] := Blk.row hxz'.out [.int .i64 (byteAt l 0), .int .i64 (byteAt l 1), .int .i64 (byteAt l 2), .int .i64 (byteAt l 3), .int .i64 (byteAt l 4), .slice A1 n1 c1]
            have hB9 := below_row hBr (Nat.le_refl w.heap.size) #[.int .i64 (byteAt l 0), .int .i64 (byteAt l 1), .int .i64 (byteAt l 2), .int .i64 (byteAt l 3), .int .i64 (byteAt l 4), .slice A1 n1 c1]
            have hO9 := hO'.out.kept (grown_row wr w.heap.size #[.int .i64 (byteAt l 0), .int .i64 (byteAt l 1), .int .i64 (byteAt l 2), .int .i64 (byteAt l 3), .int .i64 (byteAt l 4), .slice A1 n1 c1]) (Own.notBox hO'.out hxz'.out (by decide))
            generalize wr.setRow w.heap.size #[.int .i64 (byteAt l 0), .int .i64 (byteAt l 1), .int .i64 (byteAt l 2), .int .i64 (byteAt l 3), .int .i64 (byteAt l 4), .slice A1 n1 c1] = w9 at hx9 hB9 hO9 ⊢
            clear x0 x1 x2 x3 x4 x5
            have a0 := hx9.cell (j := 0) rfl
            have a1 := hx9.cell (j := 1) rfl
            have a2 := hx9.cell (j := 2) rfl
            have a3 := hx9.cell (j := 3) rfl
            have a4 := hx9.cell (j := 4) rfl
            have a5 := hx9.cell (j := 5) rfl
            have hO9' := Lib.hid hO9
            clear hO9
            go_wp2_with fail
            exact bodyPost_ret (v := .tuple #[.agg #[.int .i64 (byteAt l 0), .int .i64 (byteAt l 1), .int .i64 (byteAt l 2), .int .i64 (byteAt l 3), .int .i64 (byteAt l 4), .slice A1 n1 c1], .int .i64 (6 + 4 * (k : Int))]) (by simp [results, Tryz.results86, go_sem, a0, a1, a2, a3, a4, a5]) rfl ⟨hB9, .inr ⟨by rw [hal.out]; omega, .slice A1 n1 c1, by
              rw [hal.out]
              have e : ((6 + 4 * k : Nat) : Int) = 6 + 4 * (k : Int) := by omega
              rw [e]
              rfl, by
              show Own cLine 4 44 w9 w.heap.size (.slice A1 n1 c1) (linesOf (l.drop 6) (byteAt l 5))
              rw [hb5'.out]
              exact hO9'.out⟩⟩
end Wh
namespace Wh
open Go Go.RowKit Go.Shelf Go.Proofs
attribute [local go_sem] run_indexAt_letter evL_tmp evL_const evL_func

set_option maxHeartbeats 8000000 in
set_option maxRecDepth 100000 in
theorem rReplayOf (w : World) (t : List Nat) (hb : ∀ n ∈ t, n < 256) : Calls Tryz.prog 31 #[.string (bstr t)] w fun e w' =>
    ∃ v, e = .returned (.tuple #[v, .int .i64 (replayE t).2.1, .int .i64 (replayE t).2.2]) ∧ ActsV w' w.heap.size v (replayE t).1 ∧ Below w.heap.size w w' := by
  have hb' := Lib.hid hb
  have hsz := bstr_size t
  clear hb
  go_enter Tryz.func31, Tryz.ntmps31
  by_cases hlong : 4096 < t.length
  · have hli : (4096 : Int) < (t.length : Int) := by omega
    have hfin := Lib.hid (show replayE t = ([], 0, 2) by unfold replayE; rw [if_pos hlong])
    clear hlong
    go_wp2_with fail
    exact bodyPost_ret (v := .tuple #[.slice none 0 0, .int .i64 0, .int .i64 2]) (by simp [results, Tryz.results31, go_sem]) rfl ⟨_, by rw [hfin.out], by rw [hfin.out]; exact ActsV.nil, Below.refl _ _⟩
  · have hli : ¬ (4096 : Int) < (t.length : Int) := by omega
    have hfin := Lib.hid (show replayE t = ((replay 60 t).1, ((replay 60 t).2 : Int), 0) by unfold replayE; rw [if_neg hlong])
    go_wp2_with fail
    go_loopg [5, 6] 60 (fun gk lv sv wr => ∃ (done : List Deed) (at_ : Nat), gk = 60 - done.length ∧ done.length ≤ 60 ∧ sv = .int .i64 at_ ∧ ActsV wr w.heap.size lv done ∧ at_ ≤ t.length ∧
      replay 60 t = (done ++ (replay (60 - done.length) (t.drop at_)).1, at_ + (replay (60 - done.length) (t.drop at_)).2) ∧ Below w.heap.size w wr)
    case atStart => exact ⟨[], 0, rfl, by simp, rfl, ActsV.nil, Nat.zero_le _, by simp, Below.refl _ _⟩
    case round =>
      obtain ⟨done, at_, hgk, hd, rfl, hA, hrl, heq, hB⟩ := hrel
      obtain ⟨rem, hrm⟩ : ∃ rem, t.drop at_ = rem := ⟨_, rfl⟩
      rw [hrm] at heq
      have hrb : ∀ n ∈ rem, n < 256 := fun n hn => hb'.out n (by rw [← hrm] at hn; exact List.mem_of_mem_drop hn)
      have hex : (bstr t).extract at_ t.length = bstr rem := by
        rw [← hrm]
        unfold bstr
        rw [ByteArray.extract_mk, List.map_drop, List.take_of_length_le (by simp)]
      have hrml : rem.length = t.length - at_ := by rw [← hrm, List.length_drop]
      have hrli : (at_ : Int) ≤ (t.length : Int) := by omega
      obtain ⟨Al, cl, rfl⟩ := hA.isSlice
      have heq' := Lib.hid heq
      have hA' := Lib.hid hA
      have hrb' := Lib.hid hrb
      have hgk' := Lib.hid hgk
      have hrm' := Lib.hid hrm
      have htl : t.length ≤ 4096 := by omega
      clear heq hA hrb hgk hrm
      by_cases h60 : done.length < 60
      · have h6i : (done.length : Int) < 60 := by omega
        go_wp2_with fail
        refine (rActFrom wr rem hrb'.out).mono ?_
        rintro e W1 ⟨h1, ⟨hz, rfl⟩ | ⟨hnz, vl, rfl, hO⟩⟩
        · have hA1 := Lib.hid (hA'.out.below h1)
          have hB1 := hB.trans (h1.mono hB.size)
          have hz' := Lib.hid hz
          have hA2 := Lib.hid (hA1.out.below ((Below.refl W1.heap.size W1).alloc (Nat.le_refl _) (.cells #[.int .i64 0, .int .i64 0, .int .i64 0, .int .i64 0, .int .i64 0, .slice none 0 0] 34)))
          have hB2 := hB1.alloc hB1.size (.cells #[.int .i64 0, .int .i64 0, .int .i64 0, .int .i64 0, .int .i64 0, .slice none 0 0] 34)
          clear hA' hz h1
          have hq : replay 60 t = (done, at_) := by
            rw [heq'.out, replay_stop (.inr hz'.out)]
            simp
          have hf1 := Lib.hid (show replayE t = (done, (at_ : Int), 0) by
            rw [hfin.out, hq])
          clear hq
          go_wp2_with fail
          exact bodyPost_ret (v := .tuple #[.slice Al done.length cl, .int .i64 (at_ : Int), .int .i64 0]) (by simp [results, Tryz.results31, go_sem]) rfl ⟨_, by rw [hf1.out], by rw [hf1.out]; exact hA2.out, hB2⟩
        · obtain ⟨A2, c2, hvl⟩ := hO.isSlice
          obtain ⟨n2, hn2⟩ : ∃ n2, (actFrom rem).lines.length = n2 := ⟨_, rfl⟩
          rw [hn2] at hvl
          subst hvl
          obtain ⟨x, hx⟩ : ∃ x, actFrom rem = x := ⟨_, rfl⟩
          obtain ⟨rem2, hrem2⟩ : ∃ rem2, rem.drop (actLen rem) = rem2 := ⟨_, rfl⟩
          have hle := actLen_le rem
          obtain ⟨al, hale⟩ : ∃ al, actLen rem = al := ⟨_, rfl⟩
          have hnz0 : ((al : Int) == 0) = false := by simp; omega
          have hl2 : at_ + al ≤ t.length := by omega
          have hl2i : IntKind.i64.wrap ((at_ : Int) + (al : Int)) = (at_ : Int) + (al : Int) := IntWalk.i64_in _ (by omega)
          have hrd2 : t.drop (at_ + al) = rem2 := by rw [← List.drop_drop, hrm'.out, ← hale]; exact hrem2
          have heq2 := Lib.hid (show replay 60 t = ((done ++ [x]) ++ (replay (60 - (done ++ [x]).length) (t.drop (at_ + al))).1, (at_ + al) + (replay (60 - (done ++ [x]).length) (t.drop (at_ + al))).2) by
            have e1 : 60 - done.length = (60 - (done ++ [x]).length) + 1 := by rw [List.length_append]; simp only [List.length_cons, List.length_nil]; omega
            rw [heq'.out, e1, replay_step hnz, hx, hrem2, hale, List.append_assoc, List.singleton_append, hrd2, Nat.add_assoc])
          rw [hx, hale]
          rw [hx] at hO
          have hA1 := Lib.hid (hA'.out.below h1)
          have hB1 := hB.trans (h1.mono hB.size)
          have hO1 := Lib.hid (hO.from_ hB.size)
          clear hx hrem2 hn2 hO h1 hA' hnz hle hrd2
          obtain ⟨ps, hps, hown, hlin⟩ := hA1.out
          have hown' := Lib.hid hown
          have hlin' := Lib.hid hlin
          have hps' := Lib.hid hps
          have hpl : ps.length ≤ 1000000 := by have := congrArg List.length hps; rw [List.length_map] at this; omega
          have hbs := hB1.size
          have hpe : ps.length = done.length := by rw [← hps, List.length_map]
          clear hown hlin hps hpe
          go_wp2_with (refine wpList_push _ rfl (.tmp 24) (.tmp 26) 63 34 rfl w.heap.size _ 6 64 Tryz.underlying63 infoAct rfl (by decide) (by decide) (.slice Al done.length cl) ps (x, .slice A2 n2 c2) rfl ((hown'.out.alloc _).alloc _) ⟨W1.heap.size + 1, 0, none⟩ 1 rfl rfl (cells_new2 _ _ _) (by simp [cActV, Value.oneCell']) hpl (by rw [World.size_alloc, World.size_alloc]; omega) (fun v9 w9 ho9 hg9 hv9 hb9 => ?_); refine Hid.out ?_)
          unfold Hid
          have hb2 : Below W1.heap.size W1 ((W1.alloc (.cells #[.int .i64 x.kind, .int .i64 x.a, .int .i64 x.b, .int .i64 x.c, .int .i64 x.n, .slice A2 n2 c2] 34)).alloc (.cells #[.int .i64 x.kind, .int .i64 x.a, .int .i64 x.b, .int .i64 x.c, .int .i64 x.n, .slice A2 n2 c2] 34)) := ((Below.refl _ _).alloc (Nat.le_refl _) _).alloc (by simp) _
          have hA9 := Lib.hid (show ActsV w9 w.heap.size v9 (done ++ [x]) from ⟨ps ++ [(x, .slice A2 n2 c2)], by rw [List.map_append, hps'.out]; rfl, ho9, fun y hy => by
            have hy1 : Own cLine 4 44 W1 w.heap.size y.2 y.1.lines := by
              rcases List.mem_append.1 hy with h | h
              · exact hlin'.out y h
              · rw [List.mem_singleton] at h
                subst h
                exact hO1.out
            exact (hy1.below hb2).kept hg9 (Own.apart (hy1.below hb2) (hown'.out.below hb2) (by decide))⟩)
          have hB9 := hB1.trans (hb2.mono hB1.size) |>.trans hb9
          clear ho9 hg9 hv9 hb9 hb2 hown' hlin' hps' hA1 hO1 hB1
          go_wp2_with fail
          go_roundg (60 - (done ++ [x]).length)
          case rel => exact ⟨done ++ [x], at_ + al, rfl, by rw [List.length_append]; simp only [List.length_cons, List.length_nil]; omega, by rw [show ((at_ + al : Nat) : Int) = (at_ : Int) + (al : Int) by omega], hA9.out, hl2, heq2.out, hB9⟩
          case measure => rw [hgk'.out, List.length_append]; simp only [List.length_cons, List.length_nil]; omega
      · have h6i : ¬ (done.length : Int) < 60 := by omega
        have h60' : 60 - done.length = 0 := by omega
        have hq : replay 60 t = (done, at_) := by
          rw [heq'.out, replay_stop (.inl h60')]
          simp
        have hf1 := Lib.hid (show replayE t = (done, (at_ : Int), 0) by
          rw [hfin.out, hq])
        clear hq
        go_wp2_with fail
        exact bodyPost_ret (v := .tuple #[.slice Al done.length cl, .int .i64 (at_ : Int), .int .i64 0]) (by simp [results, Tryz.results31, go_sem]) rfl ⟨_, by rw [hf1.out], by rw [hf1.out]; exact hA'.out, hB⟩

end Wh
