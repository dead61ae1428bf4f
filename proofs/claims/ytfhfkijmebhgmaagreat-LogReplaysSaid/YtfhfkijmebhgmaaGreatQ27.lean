/- Texts of the claim, joined: Del, WaveC, PickA. -/
import Derived.StillTailTactics
import Derived.Test.YtfhfkijmebhgmaaGreatQ04
import Derived.Test.YtfhfkijmebhgmaaGreatQ08
import Derived.Test.YtfhfkijmebhgmaaGreatQ14
import Derived.Test.YtfhfkijmebhgmaaGreatQ25
import Derived.Test.YtfhfkijmebhgmaaGreatQ24
import Derived.Test.YtfhfkijmebhgmaaGreatQ23
import Derived.Test.YtfhfkijmebhgmaaGreatQ03
import Derived.Test.YtfhfkijmebhgmaaGreatQ06
import Derived.Test.YtfhfkijmebhgmaaGreatQ07
import Derived.Test.YtfhfkijmebhgmaaGreatQ09
import Derived.Test.YtfhfkijmebhgmaaGreatQ26
import Derived.Test.YtfhfkijmebhgmaaGreatQ16
namespace Wh
open Go Go.RowKit Go.Shelf Go.Proofs
attribute [local go_sem] run_indexAt_letter

theorem take_filter_yes {α : Type} {l : List α} {j : Nat} (hj : j < l.length) (P : α → Bool) (h : P l[j] = true) : (l.take (j + 1)).filter P = (l.take j).filter P ++ [l[j]] := by
  rw [List.take_succ_eq_append_getElem hj, List.filter_append]
  simp [h]
theorem take_filter_no {α : Type} {l : List α} {j : Nat} (hj : j < l.length) (P : α → Bool) (h : P l[j] = false) : (l.take (j + 1)).filter P = (l.take j).filter P := by
  rw [List.take_succ_eq_append_getElem hj, List.filter_append]
  simp [h]
theorem take_idx {α : Type} {l : List α} {P : α → Bool} (h : l.any P = true) : l.findIdx P < l.length ∧ ((l.take (l.findIdx P + 1)).filter fun x => !P x) = l.take (l.findIdx P) := by
  have hlt : l.findIdx P < l.length := List.findIdx_lt_length.2 (by obtain ⟨x, hx, hp⟩ := List.any_eq_true.1 h; exact ⟨x, hx, hp⟩)
  refine ⟨hlt, ?_⟩
  rw [take_filter_no hlt _ (by have := List.findIdx_getElem (p := P) (xs := l) (w := hlt); simp [this]), List.filter_eq_self]
  intro x hx
  obtain ⟨i, hi, rfl⟩ := List.getElem_of_mem hx
  rw [List.getElem_take]
  have hi' : i < l.findIdx P := by rw [List.length_take] at hi; omega
  have := List.not_of_lt_findIdx hi'
  simp [this]

theorem infoHold4 : (Tryz.prog.info? 46).map (·.size) = some 4 := by kernel_rfl
set_option maxHeartbeats 4000000 in
set_option maxRecDepth 100000 in
theorem delFuncHold (w : World) (base : Nat) (v : Value) (l : List Hold) (gf : FuncId) (lb : Array Value) (del : Hold → Bool) (eg : Enters Tryz.prog gf) (hown : Own cHold 4 46 w base v l) (hn : l.length ≤ 1000000)
    (hf : ∀ k, k < l.length → ∀ W, Step (fun q => v.ownBlock = some q) w W → Calls Tryz.prog gf (#[vHold (hold l k)] ++ lb) W fun e W' => e = .returned (.bool (del (hold l k))) ∧ Below W.heap.size W W') :
    Calls Tryz.prog 99 #[v, .func (.func gf) #[] lb] w fun e w' => ∃ v', e = .returned v' ∧ Own cHold 4 46 w' base v' (l.filter fun x => !del x) ∧ Step (fun q => v.ownBlock = some q) w w' ∧ v'.ownBlock = v.ownBlock := by
  have hI := Lib.hid (indexFuncHold w v l gf lb del eg (hown.sl (by omega)) (fun k hk W hW => hf k hk W (.of_below hW)))
  have hF := Lib.hid hf
  have hl : l.length ≤ 140737488355232 := by omega
  have eg' : ∀ args w, Sem.run Tryz.prog (callFunc gf args) w = .ok (.enter gf args) w := eg
  obtain ⟨A, c, rfl⟩ := hown.isSlice
  have hO := Lib.hid hown
  clear hown hf
  go_enter Tryz.func99, Tryz.ntmps99
  go_wp2_with fail
  refine hI.out.mono ?_
  rintro e W1 ⟨rfl, hb1⟩
  cases ha : l.any del
  · have hid : idxOf del l = -1 := by unfold idxOf; rw [ha]; rfl
    have hfl := Lib.hid (show (l.filter fun x => !del x) = l from List.filter_eq_self.2 fun x hx => by
      have := List.any_eq_false.1 ha x hx
      simpa using this)
    rw [hid]
    clear hid ha
    go_wp2_with fail
    go_ret
    exact ⟨.slice A l.length c, rfl, by rw [hfl.out]; exact hO.out.below hb1, .of_below hb1, rfl⟩
  · obtain ⟨i0, hi0⟩ : ∃ i0, l.findIdx del = i0 := ⟨_, rfl⟩
    have hid : idxOf del l = (i0 : Int) := by unfold idxOf; rw [ha, hi0]; rfl
    obtain ⟨hlt0, htk0⟩ := take_idx ha
    rw [hi0] at hlt0 htk0
    obtain ⟨g, c', hv, hgb, hgl⟩ := hO.out.some_ (by omega)
    injection hv with e1 _ e2
    subst e1 e2
    rw [hid]
    have hne1 : ((i0 : Int) == -1) = false := by simp
    have hw0 : IntKind.i64.wrap ((i0 : Int) + 1) = (i0 : Int) + 1 := by rw [IntKind.wrap_i64]; omega
    have hob := Lib.hid (show (Value.slice (some ⟨g, 0, none⟩) l.length c).ownBlock = some g from rfl)
    have htk := Lib.hid htk0
    have hcap := Lib.hid (show l.length ≤ c ∧ c ≤ 9223372036854775807 from by
      obtain ⟨g2, c2, cur, e1, _, _, h2, h3, _⟩ := hO.out.row (by omega)
      injection e1 with _ _ e2
      subst e2
      unfold maxLen at h3
      exact ⟨h2, by omega⟩)
    clear hid ha hi0 htk0
    go_wp2_with fail
    clear hw0 hne1
    go_loopw [6, 5, 7] (fun a b _ wr => ∃ (j i : Nat) (m : List Hold), j ≤ l.length ∧ a = .int .i64 j ∧ b = .int .i64 i ∧ i < j ∧ m.length = l.length ∧ m.take i = ((l.take j).filter fun x => !del x) ∧ m.drop j = l.drop j ∧ Own cHold 4 46 wr base (.slice (some ⟨g, 0, none⟩) l.length c) m ∧
      Step (fun q => (Value.slice (some ⟨g, 0, none⟩) l.length c).ownBlock = some q) w wr) (fun a _ _ _ => l.length - (intOf a).toNat)
    case atStart =>
      exact ⟨i0 + 1, i0, l, by omega, by go_num, rfl, by omega, rfl, htk.out.symm, rfl, hO.out.below hb1, .of_below hb1⟩
    case round =>
      obtain ⟨j, i, m, hj, rfl, rfl, hij, hml, hmt, hmd, hm, hst⟩ := hrel
      have hmt' := Lib.hid hmt
      have hmd' := Lib.hid hmd
      have hm' := Lib.hid hm
      have hst' := Lib.hid hst
      clear hmt hmd hm hst htk
      by_cases hlt : j < l.length
      · have hji : (j : Int) < (l.length : Int) := by omega
        have hii : (i : Int) < (l.length : Int) := by omega
        have hjm : j < m.length := by omega
        have hmj : m[j] = hold l j := by
          have h1 : (m.drop j)[0]? = (l.drop j)[0]? := by rw [hmd'.out]
          rw [List.getElem?_drop, List.getElem?_drop, Nat.add_zero, List.getElem?_eq_getElem hjm, List.getElem?_eq_getElem hlt] at h1
          injection h1 with h1
          rw [h1, hold_get hlt]
        obtain ⟨g1, c1, cur, e1, _, hblk, hcell⟩ := hm'.out.at (fun _ => rfl) hjm
        injection e1 with e1 e2 e3
        injection e1 with e1
        injection e1 with e1
        subst e1
        clear e2 e3
        rw [hmj] at hcell
        clear hmj
        have hml' := Lib.hid hml
        clear hml hjm
        have d0 : wr.cell? ⟨g, j * 4, none⟩ = _ := hcell 0 _ rfl
        have d1 := hcell 1 _ rfl
        have d2 := hcell 2 _ rfl
        have d3 := hcell 3 _ rfl
        have hsa : Step (fun q => (Value.slice (some ⟨g, 0, none⟩) l.length c).ownBlock = some q) w (wr.alloc (.cells #[.int .i64 (hold l j).order, .int .i64 (hold l j).line, .int .i64 (hold l j).bin, .int .i64 (hold l j).n] 46)) := hst'.out.trans (.of_below ((Below.refl _ _).alloc (Nat.le_refl _) _))
        have hbl := Lib.hid (Blk.new wr 46 #[.int .i64 (hold l j).order, .int .i64 (hold l j).line, .int .i64 (hold l j).bin, .int .i64 (hold l j).n])
        have hma := Lib.hid (hm'.out.alloc (.cells #[.int .i64 (hold l j).order, .int .i64 (hold l j).line, .int .i64 (hold l j).bin, .int .i64 (hold l j).n] 46))
        clear hcell hblk
        go_wp2_with fail
        clear d0 d1 d2 d3
        refine (hF.out j hlt _ hsa).mono ?_
        rintro e W3 ⟨rfl, hb3⟩
        have hm3 := hma.out.below hb3
        have hbl3 := hbl.out.below hb3 hbl.out.lt
        have hst3 := Lib.hid (hsa.trans (.of_below hb3))
        have c0 := hbl3.cell (j := 0) rfl
        have c1 := hbl3.cell (j := 1) rfl
        have c2 := hbl3.cell (j := 2) rfl
        have c3 := hbl3.cell (j := 3) rfl
        have hdj : del l[j] = del (hold l j) := by rw [hold_get hlt]
        have hd1 : m.drop (j + 1) = l.drop (j + 1) := by rw [← List.drop_drop, hmd'.out, List.drop_drop]
        have hd1' := Lib.hid hd1
        clear hsa hma hbl hm' hst' hd1
        cases hd : del (hold l j)
        · have hyes := Lib.hid (take_filter_yes hlt (fun x => !del x) (by rw [hdj, hd]; rfl))
          have hw1 : IntKind.i64.wrap ((i : Int) + 1) = (i : Int) + 1 := by rw [IntKind.wrap_i64]; omega
          clear hd hdj
          go_wp2_with (refine wpList_put rfl (.tmp 33) (.tmp 32) 46 rfl rfl hm3 (fun _ => rfl) (i := i) (by rw [hml'.out]; omega) (hold l j) infoHold4 (oneHold _) rfl rfl (fun w4 ho4 hg4 => ?_); refine Hid.out ?_)
          unfold Hid
          have ho4' := Lib.hid ho4
          have hst4 := Lib.hid (hst3.out.trans (.of_grown hg4 fun k hk => hob.out.trans hk))
          clear c0 c1 c2 c3 hm3 hbl3 ho4 hg4 hb3
          go_wp2_with fail
          go_roundw
          case rel =>
            refine ⟨j + 1, i + 1, m.set i (hold l j), by omega, by go_num, by go_num, by omega, by rw [List.length_set]; exact hml'.out, ?_, ?_, ho4'.out, hst4.out⟩
            · rw [hyes.out, ← hmt'.out, hold_get hlt, List.take_succ_eq_append_getElem (by rw [List.length_set, hml'.out]; omega), List.getElem_set_self, List.take_set_of_le (Nat.le_refl _)]
            · rw [List.drop_set_of_lt (by omega), hd1'.out]
          case measure => simp [intOf]; omega
        · have hno := Lib.hid (take_filter_no hlt (fun x => !del x) (by rw [hdj, hd]; rfl))
          have hm3' := Lib.hid hm3
          clear hd hdj hm3 hbl3 hb3
          go_wp2_with fail
          clear c0 c1 c2 c3
          go_roundw
          case rel => exact ⟨j + 1, i, m, by omega, by go_num, rfl, by omega, hml'.out, by rw [hno.out]; exact hmt'.out, hd1'.out, hm3'.out, hst3.out⟩
          case measure => simp [intOf]; omega
      · obtain rfl : j = l.length := by omega
        obtain ⟨W5, hclr, ho5, hg5⟩ := hm'.out.cut (P := Tryz.prog) (fun _ => rfl) (i := i) (by omega) (t := 28) Tryz.underlying28 zeroHold rfl (by simp [Value.cells, Value.oneCell'])
        have hfin := Lib.hid (show m.take i = l.filter fun x => !del x by rw [hmt'.out, List.take_length])
        have ho5' := Lib.hid ho5
        have hst5 := Lib.hid (hst'.out.trans (.of_grown hg5 fun k hk => hob.out.trans hk))
        have hi1 : (i : Int) ≤ (l.length : Int) := by omega
        have hcp := hcap.out
        have hi2 : i ≤ c := by omega
        have hi3 : ¬ c = i := by omega
        have hi4 : i ≤ l.length := by omega
        clear ho5 hg5 hm' hst'
        go_wp2_with fail
        go_ret
        exact ⟨.slice (some ⟨g, 0, none⟩) i c, rfl, by rw [← hfin.out]; exact ho5'.out, hst5.out, rfl⟩
theorem infoMove4 : (Tryz.prog.info? 48).map (·.size) = some 4 := by kernel_rfl
set_option maxHeartbeats 4000000 in
set_option maxRecDepth 100000 in
theorem delFuncMove (w : World) (base : Nat) (v : Value) (l : List Move) (gf : FuncId) (lb : Array Value) (del : Move → Bool) (eg : Enters Tryz.prog gf) (hown : Own cMove 4 48 w base v l) (hn : l.length ≤ 1000000)
    (hf : ∀ k, k < l.length → ∀ W, Step (fun q => v.ownBlock = some q) w W → Calls Tryz.prog gf (#[vMove (moveAt l k)] ++ lb) W fun e W' => e = .returned (.bool (del (moveAt l k))) ∧ Below W.heap.size W W') :
    Calls Tryz.prog 116 #[v, .func (.func gf) #[] lb] w fun e w' => ∃ v', e = .returned v' ∧ Own cMove 4 48 w' base v' (l.filter fun x => !del x) ∧ Step (fun q => v.ownBlock = some q) w w' ∧ v'.ownBlock = v.ownBlock := by
  have hI := Lib.hid (indexFuncMove w v l gf lb del eg (hown.sl (by omega)) (fun k hk W hW => hf k hk W (.of_below hW)))
  have hF := Lib.hid hf
  have hl : l.length ≤ 140737488355232 := by omega
  have eg' : ∀ args w, Sem.run Tryz.prog (callFunc gf args) w = .ok (.enter gf args) w := eg
  obtain ⟨A, c, rfl⟩ := hown.isSlice
  have hO := Lib.hid hown
  clear hown hf
  go_enter Tryz.func116, Tryz.ntmps116
  go_wp2_with fail
  refine hI.out.mono ?_
  rintro e W1 ⟨rfl, hb1⟩
  cases ha : l.any del
  · have hid : idxOf del l = -1 := by unfold idxOf; rw [ha]; rfl
    have hfl := Lib.hid (show (l.filter fun x => !del x) = l from List.filter_eq_self.2 fun x hx => by
      have := List.any_eq_false.1 ha x hx
      simpa using this)
    rw [hid]
    clear hid ha
    go_wp2_with fail
    go_ret
    exact ⟨.slice A l.length c, rfl, by rw [hfl.out]; exact hO.out.below hb1, .of_below hb1, rfl⟩
  · obtain ⟨i0, hi0⟩ : ∃ i0, l.findIdx del = i0 := ⟨_, rfl⟩
    have hid : idxOf del l = (i0 : Int) := by unfold idxOf; rw [ha, hi0]; rfl
    obtain ⟨hlt0, htk0⟩ := take_idx ha
    rw [hi0] at hlt0 htk0
    obtain ⟨g, c', hv, hgb, hgl⟩ := hO.out.some_ (by omega)
    injection hv with e1 _ e2
    subst e1 e2
    rw [hid]
    have hne1 : ((i0 : Int) == -1) = false := by simp
    have hw0 : IntKind.i64.wrap ((i0 : Int) + 1) = (i0 : Int) + 1 := by rw [IntKind.wrap_i64]; omega
    have hob := Lib.hid (show (Value.slice (some ⟨g, 0, none⟩) l.length c).ownBlock = some g from rfl)
    have htk := Lib.hid htk0
    have hcap := Lib.hid (show l.length ≤ c ∧ c ≤ 9223372036854775807 from by
      obtain ⟨g2, c2, cur, e1, _, _, h2, h3, _⟩ := hO.out.row (by omega)
      injection e1 with _ _ e2
      subst e2
      unfold maxLen at h3
      exact ⟨h2, by omega⟩)
    clear hid ha hi0 htk0
    go_wp2_with fail
    clear hw0 hne1
    go_loopw [6, 5, 7] (fun a b _ wr => ∃ (j i : Nat) (m : List Move), j ≤ l.length ∧ a = .int .i64 j ∧ b = .int .i64 i ∧ i < j ∧ m.length = l.length ∧ m.take i = ((l.take j).filter fun x => !del x) ∧ m.drop j = l.drop j ∧ Own cMove 4 48 wr base (.slice (some ⟨g, 0, none⟩) l.length c) m ∧
      Step (fun q => (Value.slice (some ⟨g, 0, none⟩) l.length c).ownBlock = some q) w wr) (fun a _ _ _ => l.length - (intOf a).toNat)
    case atStart =>
      exact ⟨i0 + 1, i0, l, by omega, by go_num, rfl, by omega, rfl, htk.out.symm, rfl, hO.out.below hb1, .of_below hb1⟩
    case round =>
      obtain ⟨j, i, m, hj, rfl, rfl, hij, hml, hmt, hmd, hm, hst⟩ := hrel
      have hmt' := Lib.hid hmt
      have hmd' := Lib.hid hmd
      have hm' := Lib.hid hm
      have hst' := Lib.hid hst
      clear hmt hmd hm hst htk
      by_cases hlt : j < l.length
      · have hji : (j : Int) < (l.length : Int) := by omega
        have hii : (i : Int) < (l.length : Int) := by omega
        have hjm : j < m.length := by omega
        have hmj : m[j] = moveAt l j := by
          have h1 : (m.drop j)[0]? = (l.drop j)[0]? := by rw [hmd'.out]
          rw [List.getElem?_drop, List.getElem?_drop, Nat.add_zero, List.getElem?_eq_getElem hjm, List.getElem?_eq_getElem hlt] at h1
          injection h1 with h1
          rw [h1, moveAt_eq hlt]
        obtain ⟨g1, c1, cur, e1, _, hblk, hcell⟩ := hm'.out.at (fun _ => rfl) hjm
        injection e1 with e1 e2 e3
        injection e1 with e1
        injection e1 with e1
        subst e1
        clear e2 e3
        rw [hmj] at hcell
        clear hmj
        have hml' := Lib.hid hml
        clear hml hjm
        have d0 : wr.cell? ⟨g, j * 4, none⟩ = _ := hcell 0 _ rfl
        have d1 := hcell 1 _ rfl
        have d2 := hcell 2 _ rfl
        have d3 := hcell 3 _ rfl
        have hsa : Step (fun q => (Value.slice (some ⟨g, 0, none⟩) l.length c).ownBlock = some q) w (wr.alloc (.cells #[.int .i64 (moveAt l j).good, .int .i64 (moveAt l j).src, .int .i64 (moveAt l j).dst, .int .i64 (moveAt l j).n] 48)) := hst'.out.trans (.of_below ((Below.refl _ _).alloc (Nat.le_refl _) _))
        have hbl := Lib.hid (Blk.new wr 48 #[.int .i64 (moveAt l j).good, .int .i64 (moveAt l j).src, .int .i64 (moveAt l j).dst, .int .i64 (moveAt l j).n])
        have hma := Lib.hid (hm'.out.alloc (.cells #[.int .i64 (moveAt l j).good, .int .i64 (moveAt l j).src, .int .i64 (moveAt l j).dst, .int .i64 (moveAt l j).n] 48))
        clear hcell hblk
        go_wp2_with fail
        clear d0 d1 d2 d3
        refine (hF.out j hlt _ hsa).mono ?_
        rintro e W3 ⟨rfl, hb3⟩
        have hm3 := hma.out.below hb3
        have hbl3 := hbl.out.below hb3 hbl.out.lt
        have hst3 := Lib.hid (hsa.trans (.of_below hb3))
        have c0 := hbl3.cell (j := 0) rfl
        have c1 := hbl3.cell (j := 1) rfl
        have c2 := hbl3.cell (j := 2) rfl
        have c3 := hbl3.cell (j := 3) rfl
        have hdj : del l[j] = del (moveAt l j) := by rw [moveAt_eq hlt]
        have hd1 : m.drop (j + 1) = l.drop (j + 1) := by rw [← List.drop_drop, hmd'.out, List.drop_drop]
        have hd1' := Lib.hid hd1
        clear hsa hma hbl hm' hst' hd1
        cases hd : del (moveAt l j)
        · have hyes := Lib.hid (take_filter_yes hlt (fun x => !del x) (by rw [hdj, hd]; rfl))
          have hw1 : IntKind.i64.wrap ((i : Int) + 1) = (i : Int) + 1 := by rw [IntKind.wrap_i64]; omega
          clear hd hdj
          go_wp2_with (refine wpList_put rfl (.tmp 33) (.tmp 32) 48 rfl rfl hm3 (fun _ => rfl) (i := i) (by rw [hml'.out]; omega) (moveAt l j) infoMove4 (oneMove _) rfl rfl (fun w4 ho4 hg4 => ?_); refine Hid.out ?_)
          unfold Hid
          have ho4' := Lib.hid ho4
          have hst4 := Lib.hid (hst3.out.trans (.of_grown hg4 fun k hk => hob.out.trans hk))
          clear c0 c1 c2 c3 hm3 hbl3 ho4 hg4 hb3
          go_wp2_with fail
          go_roundw
          case rel =>
            refine ⟨j + 1, i + 1, m.set i (moveAt l j), by omega, by go_num, by go_num, by omega, by rw [List.length_set]; exact hml'.out, ?_, ?_, ho4'.out, hst4.out⟩
            · rw [hyes.out, ← hmt'.out, moveAt_eq hlt, List.take_succ_eq_append_getElem (by rw [List.length_set, hml'.out]; omega), List.getElem_set_self, List.take_set_of_le (Nat.le_refl _)]
            · rw [List.drop_set_of_lt (by omega), hd1'.out]
          case measure => simp [intOf]; omega
        · have hno := Lib.hid (take_filter_no hlt (fun x => !del x) (by rw [hdj, hd]; rfl))
          have hm3' := Lib.hid hm3
          clear hd hdj hm3 hbl3 hb3
          go_wp2_with fail
          clear c0 c1 c2 c3
          go_roundw
          case rel => exact ⟨j + 1, i, m, by omega, by go_num, rfl, by omega, hml'.out, by rw [hno.out]; exact hmt'.out, hd1'.out, hm3'.out, hst3.out⟩
          case measure => simp [intOf]; omega
      · obtain rfl : j = l.length := by omega
        obtain ⟨W5, hclr, ho5, hg5⟩ := hm'.out.cut (P := Tryz.prog) (fun _ => rfl) (i := i) (by omega) (t := 29) Tryz.underlying29 zeroMove rfl (by simp [Value.cells, Value.oneCell'])
        have hfin := Lib.hid (show m.take i = l.filter fun x => !del x by rw [hmt'.out, List.take_length])
        have ho5' := Lib.hid ho5
        have hst5 := Lib.hid (hst'.out.trans (.of_grown hg5 fun k hk => hob.out.trans hk))
        have hi1 : (i : Int) ≤ (l.length : Int) := by omega
        have hcp := hcap.out
        have hi2 : i ≤ c := by omega
        have hi3 : ¬ c = i := by omega
        have hi4 : i ≤ l.length := by omega
        clear ho5 hg5 hm' hst'
        go_wp2_with fail
        go_ret
        exact ⟨.slice (some ⟨g, 0, none⟩) i c, rfl, by rw [← hfin.out]; exact ho5'.out, hst5.out, rfl⟩
end Wh
namespace Wh
open Go Go.RowKit Go.Shelf Go.Proofs
attribute [local go_sem] run_indexAt_letter evL_tmp evL_const evL_func

/-- The boxes of a plan, a state, a number, and of the state that comes. -/
theorem boxesCan (w : World) (o : Int) (p : Plan) (s : State) (Ab : Option Addr) (cb : Nat) (As : Option Addr) (cs : Nat) (A0 : Option Addr) (c0 : Nat) (A1 : Option Addr) (c1 : Nat) (A2 : Option Addr) (c2 : Nat) (A3 : Option Addr) (c3 : Nat) (A4 : Option Addr) (c4 : Nat) (A5 : Option Addr) (c5 : Nat) (A6 : Option Addr) (c6 : Nat) :
    ∃ W0 : World, (((w.alloc (.cells #[.slice Ab p.bins.length cb, .slice As p.sizes.length cs] 25)).alloc (.cells #[.slice A0 s.on.length c0, .slice A1 s.orders.length c1, .slice A2 s.holds.length c2, .slice A3 s.moves.length c3, .slice A4 s.inn.length c4, .slice A5 s.out.length c5, .slice A6 s.fixed.length c6] 31)).alloc (.cells #[.int .i64 o] 3)).alloc (.cells #[.slice none 0 0, .slice none 0 0, .slice none 0 0, .slice none 0 0, .slice none 0 0, .slice none 0 0, .slice none 0 0] 31) = W0 ∧ Below w.heap.size w W0 ∧ w.heap.size + 1 < W0.heap.size ∧ w.heap.size < W0.heap.size ∧ Hid (W0.heap.size = w.heap.size + 1 + 1 + 1 + 1) ∧
      Hid (∀ W, Below W0.heap.size W0 W → (W.cell? ⟨w.heap.size, 0, none⟩ = some (.slice Ab p.bins.length cb) ∧ W.cell? ⟨w.heap.size, 1, none⟩ = some (.slice As p.sizes.length cs)) ∧ W.cell? ⟨w.heap.size + 1, 0, none⟩ = some (.slice A0 s.on.length c0) ∧ W.cell? ⟨w.heap.size + 1, 1, none⟩ = some (.slice A1 s.orders.length c1) ∧ W.cell? ⟨w.heap.size + 1, 2, none⟩ = some (.slice A2 s.holds.length c2) ∧ W.cell? ⟨w.heap.size + 1, 3, none⟩ = some (.slice A3 s.moves.length c3) ∧ W.cell? ⟨w.heap.size + 1, 4, none⟩ = some (.slice A4 s.inn.length c4) ∧ W.cell? ⟨w.heap.size + 1, 5, none⟩ = some (.slice A5 s.out.length c5) ∧ W.cell? ⟨w.heap.size + 1, 6, none⟩ = some (.slice A6 s.fixed.length c6) ∧ w.heap.size + 1 < W.heap.size ∧ w.heap.size < W.heap.size) ∧
      Hid (∀ W, Below W0.heap.size W0 W → W.cell? ⟨w.heap.size + 1 + 1, 0, none⟩ = some (.int .i64 o) ∧ w.heap.size + 1 + 1 < W.heap.size) ∧
      Hid (∀ W, Below W0.heap.size W0 W → Blk W (w.heap.size + 1 + 1 + 1) 31 [.slice none 0 0, .slice none 0 0, .slice none 0 0, .slice none 0 0, .slice none 0 0, .slice none 0 0, .slice none 0 0]) := by
  obtain ⟨W1, e1, b1, s1, s2, s3, hK⟩ := boxesTwo w p s Ab cb As cs A0 c0 A1 c1 A2 c2 A3 c3 A4 c4 A5 c5 A6 c6
  rw [e1]
  have e3 : W1.heap.size = w.heap.size + 1 + 1 := s3
  have ha0 : Below W1.heap.size W1 (W1.alloc (.cells #[.int .i64 o] 3)) := (Below.refl _ _).alloc (Nat.le_refl _) _
  have h0 : Blk (W1.alloc (.cells #[.int .i64 o] 3)) W1.heap.size 3 [.int .i64 o] := Blk.new _ _ _
  generalize hW2 : W1.alloc (.cells #[.int .i64 o] 3) = W2 at ha0 h0 ⊢
  have e4 : W2.heap.size = w.heap.size + 1 + 1 + 1 := by rw [← hW2, World.size_alloc, e3]
  have ha : Below W2.heap.size W2 (W2.alloc (.cells #[.slice none 0 0, .slice none 0 0, .slice none 0 0, .slice none 0 0, .slice none 0 0, .slice none 0 0, .slice none 0 0] 31)) := (Below.refl _ _).alloc (Nat.le_refl _) _
  have h1 : Blk (W2.alloc (.cells #[.slice none 0 0, .slice none 0 0, .slice none 0 0, .slice none 0 0, .slice none 0 0, .slice none 0 0, .slice none 0 0] 31)) W2.heap.size 31 [.slice none 0 0, .slice none 0 0, .slice none 0 0, .slice none 0 0, .slice none 0 0, .slice none 0 0, .slice none 0 0] := Blk.new _ _ _
  have h2 : Blk (W2.alloc (.cells #[.slice none 0 0, .slice none 0 0, .slice none 0 0, .slice none 0 0, .slice none 0 0, .slice none 0 0, .slice none 0 0] 31)) W1.heap.size 3 [.int .i64 o] := h0.below ha h0.lt
  have h12 := ha0.trans (ha.mono ha0.size)
  rw [e3] at h2
  rw [e4] at h1
  refine ⟨_, rfl, b1.trans (h12.mono b1.size), by simp [e4] <;> omega, by simp [e4] <;> omega, Lib.hid (by simp [e4]), Lib.hid fun W hW => ?_, Lib.hid fun W hW => ?_, Lib.hid fun W hW => h1.below hW (by simp [e4])⟩
  · exact RowKit.Hid.out hK W (h12.trans (hW.mono h12.size))
  · have h3 := h2.below hW (by simp [e4] <;> omega)
    exact ⟨h3.cell rfl, h3.lt⟩

theorem off_apart {a b : Option Nat} (h : a = none ∨ a ≠ b) : ∀ k, a = some k → ¬ b = some k := by
  rintro k rfl h2
  rcases h with h | h
  · cases h
  · exact h h2.symm
/-- Another slice of holds, when the old one's block may have been written. -/
theorem OwnSt.stepHolds {w w' : World} {base : Nat} {V : SV} {s : State} (h : OwnSt w base V s) (hs : Step (fun q => V.holds.ownBlock = some q) w w') {v : Value} {l : List Hold} (hv : Own cHold 4 46 w' base v l) : OwnSt w' base { V with holds := v } { s with holds := l } :=
  ⟨h.on.step hs (off_apart (h.on.apart h.holds (by decide))), h.rlen, fun b hb => (h.row b hb).step hs (off_apart ((h.row b hb).apart h.holds (by decide))), h.orders.step hs (off_apart (h.orders.apart h.holds (by decide))), h.llen, fun o ho => (h.line o ho).step hs (off_apart ((h.line o ho).apart h.holds (by decide))),
    hv, h.moves.step hs (off_apart (h.moves.apart h.holds (by decide))), h.inn.step hs (off_apart (h.inn.apart h.holds (by decide))), h.out.step hs (off_apart (h.out.apart h.holds (by decide))), h.fixed.step hs (off_apart (h.fixed.apart h.holds (by decide))), h.apart, h.apartl⟩

set_option maxHeartbeats 2000000 in
theorem canHold (x : Hold) (o : Int) (W : World) (B : Nat) (h0 : W.cell? ⟨B, 0, none⟩ = some (.int .i64 o)) (hB : B < W.heap.size) :
    Calls Tryz.prog 100 (#[vHold x] ++ #[.pointer (some ⟨B, 0, none⟩)]) W fun e W' => e = .returned (.bool (x.order == o)) ∧ Below W.heap.size W W' := by
  have hb0 : Below W.heap.size W (W.alloc (.cells #[.int .i64 (x).order, .int .i64 (x).line, .int .i64 (x).bin, .int .i64 (x).n] 46)) := (Below.refl _ _).alloc (Nat.le_refl _) _
  change Calls Tryz.prog 100 #[vHold x, .pointer (some ⟨B, 0, none⟩)] W _
  unfold vHold
  go_enter Tryz.func100, Tryz.ntmps100
  go_wp2_with fail
  go_ret
  exact ⟨rfl, hb0⟩
theorem entersCan : Enters Tryz.prog 100 := enters_of Tryz.func100 (by kernel_rfl) rfl


set_option maxHeartbeats 8000000 in
set_option maxRecDepth 100000 in
theorem wvCancel (w : World) (v vs : Value) (p : Plan) (s : State) (o : Int) (hp : PlanV w w.heap.size v p) (hv : StateV w w.heap.size vs s) :
    Calls Tryz.prog 47 #[v, vs, .int .i64 o] w (ActPost (cancel p s o) w) := by
  obtain ⟨Ab, cb, As, cs, rfl, hP', hBn, hSz, hlb, hls⟩ := openPl hp
  obtain ⟨A0, c0, A1, c1, A2, c2, A3, c3, A4, c4, A5, c5, A6, c6, rfl, hV, hN, hO, hH, hM, hI, hU, hX, hl0, hl1, hl2, hl3, hl4, hl5, hl6⟩ := openOne hv
  go_enter Tryz.func47, Tryz.ntmps47
  go_wp2_with fail
  obtain ⟨W0, hW0, hb0, hsz0, hsz1, hsE, hK, hJ, hR⟩ := boxesCan w o p s Ab cb As cs A0 c0 A1 c1 A2 c2 A3 c3 A4 c4 A5 c5 A6 c6
  rw [hW0]
  clear hW0
  obtain ⟨⟨y0, y1⟩, x0, x1, x2, x3, x4, x5, x6, hbz0, hbz1⟩ := hK.out W0 (Below.refl W0.heap.size W0)
  go_wp2_with fail
  clear y0 y1 x0 x1 x2 x3 x4 x5 x6 hbz0 hbz1
  refine (sCheck _ _ _ p s (hP'.out _ hb0) (hV.out _ hb0)).mono ?_
  rintro e W1 ⟨rfl, h1⟩
  have hB1 := hb0.trans (h1.mono hb0.size)
  obtain ⟨⟨y0, y1⟩, x0, x1, x2, x3, x4, x5, x6, hbz0, hbz1⟩ := hK.out W1 (h1)
  obtain ⟨i0, i1⟩ := hJ.out W1 h1
  by_cases hc : checkState p s = 0
  · have hc' := Lib.hid hc
    have hsn := Lib.hid (checkState_zero.1 hc).1
    have h4 := hsn.out.orders4
    rw [hc]
    clear hc
    by_cases q0 : o < 0
    · have hfin := Lib.hid (cancel_none hc'.out (.inl q0))
      have hbx9 := hR.out _ h1
      go_wp2_with (refine wpList_store_state rfl (.tmp 6) (.tmp 29) rfl rfl (w.heap.size + 1 + 1 + 1) nilSV nilSV hbx9 rfl rfl rfl (fun w9 hbox9 hg9 => ?_))
      obtain ⟨p0, p1, p2, p3, p4, p5, p6⟩ := BoxAt.cells hbox9
      have hfin9 : Below w.heap.size w w9 := Below.grown hB1 hg9 (Below.size hB1) (fun k hk => by injection hk with hk; omega)
      go_wp2_with fail
      exact bodyPost_ret (v := .tuple #[nilSV.val, .int .i64 4]) (by simp [results, Tryz.results47, go_sem, SV.val, p0, p1, p2, p3, p4, p5, p6]) rfl (actErr hfin.out hfin9)
    by_cases q1 : (s.orders.length : Int) ≤ o
    · have hfin := Lib.hid (cancel_none hc'.out (.inr q1))
      have q0' : decide (o < 0) = false := by simp; omega
      have hbx9 := hR.out _ h1
      go_wp2_with (refine wpList_store_state rfl (.tmp 6) (.tmp 29) rfl rfl (w.heap.size + 1 + 1 + 1) nilSV nilSV hbx9 rfl rfl rfl (fun w9 hbox9 hg9 => ?_))
      obtain ⟨p0, p1, p2, p3, p4, p5, p6⟩ := BoxAt.cells hbox9
      have hfin9 : Below w.heap.size w w9 := Below.grown hB1 hg9 (Below.size hB1) (fun k hk => by injection hk with hk; omega)
      go_wp2_with fail
      exact bodyPost_ret (v := .tuple #[nilSV.val, .int .i64 4]) (by simp [results, Tryz.results47, go_sem, SV.val, p0, p1, p2, p3, p4, p5, p6]) rfl (actErr hfin.out hfin9)
    obtain ⟨i, rfl⟩ : ∃ i : Nat, o = i := ⟨o.toNat, by omega⟩
    have hi : i < s.orders.length := by omega
    have hi' : (i : Int) < s.orders.length := by omega
    have q0' : decide ((i : Int) < 0) = false := by simp
    have q1' : decide ((s.orders.length : Int) ≤ i) = false := by simp; omega
    clear q0 q1
    obtain ⟨Al, cl, ol, ll, d0, d1, hsl⟩ := (hO.out W1 hB1).order hi
    change W1.cell? _ = some (Value.int IntKind.i64 (s.order i).kind) at d0
    by_cases hk : (s.order i).kind = 2
    · have hfin := Lib.hid (cancel_done hc'.out hi hk)
      rw [hk] at d0
      clear hk
      have hbx9 := hR.out _ h1
      go_wp2_with (refine wpList_store_state rfl (.tmp 6) (.tmp 37) rfl rfl (w.heap.size + 1 + 1 + 1) nilSV nilSV hbx9 rfl rfl rfl (fun w9 hbox9 hg9 => ?_))
      obtain ⟨p0, p1, p2, p3, p4, p5, p6⟩ := BoxAt.cells hbox9
      have hfin9 : Below w.heap.size w w9 := Below.grown hB1 hg9 (Below.size hB1) (fun k hk => by injection hk with hk; omega)
      go_wp2_with fail
      exact bodyPost_ret (v := .tuple #[nilSV.val, .int .i64 6]) (by simp [results, Tryz.results47, go_sem, SV.val, p0, p1, p2, p3, p4, p5, p6]) rfl (actErr hfin.out hfin9)
    · have hfin := Lib.hid (cancel_ok hc'.out hi hk)
      have hq : ((s.order i).kind == 2) = false := by simpa using hk
      clear hk
      go_wp2_with fail
      clear y0 y1 x0 x1 x2 x3 x4 x5 x6 hbz0 hbz1
      clear d0 d1 i0 i1 hsl hq
      refine (sOwn _ _ p s (hV.out _ hB1) hsn.out).mono ?_
      rintro e W5 ⟨_, rfl, ⟨V5, rfl, ho5⟩, h5⟩
      have hone6 := (ho5).one
      have hnb6 := newBox (W5)
      go_wp2_with (refine wpList_store_state rfl (.tmp 9) (.tmp 39) rfl rfl (World.heap (W5)).size nilSV V5 hnb6 rfl rfl hone6 (fun w6 hbox6 hg6 => ?_); refine Hid.out ?_)
      unfold Hid
      have hbb6 := newBelow hg6
      have hbl6 := hbox6.lt
      clear hone6 hnb6 hg6
      have hx6 := Lib.hid (Bx.of hbox6 (ho5.below hbb6))
      have h06 := h1.trans ((h5.trans (hbb6.mono h5.size)).mono h1.size)
      have hle : w.heap.size ≤ W1.heap.size := hB1.size
      have hle0 : W0.heap.size ≤ W1.heap.size := h1.size
      have hle5 : W1.heap.size ≤ W5.heap.size := h5.size
      clear hbox6 ho5 hbb6 h5 hbl6 h1 hB1
      generalize W1.heap.size = base at hx6 hle hle0 hle5
      generalize W5.heap.size = bx at hx6 hle5 ⊢
      obtain ⟨Ao, co, hvo⟩ := hx6.out.own.ordersSlice
      have hvo' := Lib.hid hvo
      obtain ⟨Ah, ch, hvh⟩ := hx6.out.own.holds.isSlice
      have c2 := hx6.out.cells.2.2.1
      rw [hvh] at c2
      have hoh := hx6.out.own.holds
      rw [hvh] at hoh
      have hvh' := Lib.hid hvh
      have hoh' := Lib.hid hoh
      clear hvo hvh hoh
      go_wp2_with fail
      clear c2
      refine (delFuncHold w6 base _ s.holds 100 #[.pointer (some ⟨w.heap.size + 1 + 1, 0, none⟩)] (fun x => x.order == (i : Int)) entersCan hoh'.out (by have := ok_len72 hsn.out.holds; omega) (fun k hk W hW => by
        have h0W := h06.trans (hW.below (B := W0.heap.size) (fun q hq => by
          have h9 := hoh'.out.size q hq
          omega) h06.size)
        obtain ⟨j0, j1⟩ := hJ.out W h0W
        exact canHold _ _ W _ j0 j1)).mono ?_
      rintro e w7 ⟨v7, rfl, ho7, hst7, hob7⟩
      obtain ⟨A7, c7, rfl⟩ := ho7.isSlice
      have hl7 : ∃ l7, (s.holds.filter fun x => !(x.order == (i : Int))) = l7 := ⟨_, rfl⟩
      obtain ⟨l7, hl7⟩ := hl7
      rw [hl7] at ho7 hob7 ⊢
      have hst7' : Step (fun q => V5.holds.ownBlock = some q) w6 w7 := by rw [hvh'.out]; exact hst7
      have hO7 := hx6.out.own.stepHolds hst7' ho7
      have hb7 : BoxAt w7 bx V5 := hst7'.blk hx6.out.boxAt.blk (off_apart (hx6.out.own.holds.notBox hx6.out.boxAt.blk (by decide)) _ · rfl)
      have hfl := Lib.hid (show l7 = s.holds.filter fun h => decide (h.order ≠ (i : Int)) by
        rw [← hl7]
        congr 1
        funext x
        by_cases hx : x.order = (i : Int) <;> simp [hx])
      have hle7 : l7.length ≤ 1000000 := by
        rw [← hl7]
        have := List.length_filter_le (fun x => !(x.order == (i : Int))) s.holds
        have := ok_len72 hsn.out.holds
        omega
      have h07 := Lib.hid (h06.trans (hst7.below (B := W0.heap.size) (fun q hq => by
          have h9 := hoh'.out.size q hq
          omega) h06.size))
      have hO7' := Lib.hid hO7
      have hb7' := Lib.hid hb7
      clear ho7 hob7 hst7 hst7' hO7 hb7 hx6 hoh' h06 hl7
      go_wp2_with (refine wp_st_holds' rfl (.tmp 44) (.tmp 43) rfl rfl A7 l7.length c7 (V := V5) (cs := []) (b := bx) (by rw [List.append_nil]; exact hb7'.out.blk) hO7'.out boxT rfl rfl rfl (fun w8 hx8 hst8 => ?_); refine Hid.out ?_)
      unfold Hid
      have h08 := h07.out.trans (hst8.below (B := W0.heap.size) (fun q hq => by omega) h07.out.size)
      obtain ⟨i0, i1⟩ := hJ.out w8 h08
      have hx8' := Lib.hid hx8
      obtain ⟨V8, hV8⟩ : ∃ V8 : SV, { V5 with holds := .slice A7 l7.length c7 } = V8 := ⟨_, rfl⟩
      rw [hV8] at hx8'
      have hvo8 : V8.orders = .slice Ao s.orders.length co := by rw [← hV8]; exact hvo'.out
      have hvo8' := Lib.hid hvo8
      clear hx8 hst8 hV8 hO7' hb7' h07 hvo8 hvo' hvh'
      obtain ⟨go, _, _, eo, -⟩ := hx8'.out.own.orderAt (o := i) hi
      rw [hvo8'.out] at eo
      injection eo with eo e2 e3
      subst eo
      clear e2 e3
      obtain ⟨hgo, hgol, z0, z1⟩ := hx8'.out.own.orderCells (o := i) hi hvo8'.out
      have c1 := hx8'.out.cells.2.1
      rw [hvo8'.out] at c1
      go_wp2_with (refine wp_st_kind rfl (.tmp 51) (.const (.int .i64 2)) rfl rfl (i := i) (q := 2) hx8'.out hi hvo8'.out rfl rfl (fun w9 hx9 hst9 => ?_); refine Hid.out ?_)
      unfold Hid
      have hx9 : Bx w9 base bx 31 [] V8 (cancK s l7 i 0) := by rw [← cancK_zero]; exact hx9
      have h09 := h08.trans (hst9.below (B := W0.heap.size) (fun q hq => by omega) h08.size)
      have hx9' := Lib.hid hx9
      clear hst9 hx9 z0 z1 c1 hx8' h08 i0 i1
      have l13 := hsn.out.lines3 hi
      obtain ⟨_, _, z0, z1⟩ := hx9'.out.own.orderCells (o := i) (by rw [cancK_len]; exact hi) hvo8'.out
      obtain ⟨gl, cl, e1, hgl⟩ := hx9'.out.own.lineSlice (o := i) (by rw [cancK_len]; exact hi) (by rw [cancK_lines hi]; omega)
      rw [cancK_lines hi] at e1
      have e1' := Lib.hid e1
      rw [e1] at z1
      clear e1 z0
      go_wp2_with fail
      clear z1
      go_loopw [57, 11, 12] (fun j _ _ wr => ∃ k : Nat, k ≤ (s.order i).lines.length ∧ j = .int .i64 k ∧ Bx wr base bx 31 [] V8 (cancK s l7 i k) ∧ Below W0.heap.size W0 wr) (fun j _ _ _ => (s.order i).lines.length - (intOf j).toNat)
      case atStart => exact ⟨0, Nat.zero_le _, rfl, hx9'.out, h09⟩
      case round =>
        clear hx9' h09
        obtain ⟨k, hkl, rfl, hx, h0⟩ := hrel
        have hx' := Lib.hid hx
        clear hx
        by_cases hkt : k < (s.order i).lines.length
        · have hki : (k : Int) < ((s.order i).lines.length : Int) := by omega
          have hon : i < (cancK s l7 i k).orders.length := by rw [cancK_len]; exact hi
          have hkn : k < ((cancK s l7 i k).order i).lines.length := by rw [cancK_lines hi]; exact hkt
          obtain ⟨_, _, _, z1⟩ := hx'.out.own.orderCells hon hvo8'.out
          rw [e1'.out] at z1
          obtain ⟨hgll, f0, f1, f2, f3⟩ := hx'.out.own.lineCells hon hkn e1'.out
          rw [cancK_line hi hkt] at f1 f2
          have hlr := hsn.out.line hi hkt
          have hwr : IntKind.i64.wrap ((s.line i k).want - (s.line i k).got) = (s.line i k).want - (s.line i k).got := by rw [IntKind.wrap_i64]; omega
          have hx'd := Lib.hid hx'.out.drew
          clear f0 f3 hlr
          go_wp2_with fail
          go_still_tail 12, (by kernel_rfl)
          change wpList _ _ _ _ _ wr.drew
          refine wp_st_line rfl (.tmp 77) (.tmp 75) rfl rfl (j := 3) (y := { s.line i k with back := (s.line i k).want - (s.line i k).got }) hx'd.out hon hkn e1'.out (by decide) (by rw [cancK_line hi hkt]; rfl) rfl rfl (fun w9 hx9 hst9 => ?_)
          refine wpList_nil ?_
          rw [cancK_succ hi hkt] at hx9
          have h09 := h0.drew.trans (hst9.below (B := W0.heap.size) (fun q hq => by omega) h0.drew.size)
          have hx9' := Lib.hid hx9
          clear hst9 hx9 z1 f1 f2 hx' hx'd hon hkn hwr
          go_wp2_with fail
          go_roundw
          case rel => exact ⟨k + 1, by omega, by go_num, hx9'.out, h09⟩
          case measure => simp [intOf]; omega
        · obtain rfl : k = (s.order i).lines.length := by omega
          have hB0 := hb0.trans (h0.mono hb0.size)
          have hx2 := Lib.hid (show Bx wr base bx 31 [] V8 (cancelS s i) by rw [← cancK_all, ← hfl.out]; exact hx'.out)
          clear hx'
          have hbx9 := hR.out _ h0
          obtain ⟨b0, b1, b2, b3, b4, b5, b6⟩ := BoxAt.cells hx2.out.boxAt
          have hone9 := OwnSt.one hx2.out.own
          go_wp2_with (refine wpList_store_state rfl (.tmp 6) (.tmp 79) rfl rfl (w.heap.size + 1 + 1 + 1) nilSV V8 hbx9 rfl rfl hone9 (fun w9 hbox9 hg9 => ?_))
          have hO9 := OwnSt.keptBy hx2.out.own hg9 hbx9 (by decide) (by decide) (by decide) (by decide) (by decide) (by decide)
          obtain ⟨p0, p1, p2, p3, p4, p5, p6⟩ := BoxAt.cells hbox9
          have hfin9 : Below w.heap.size w w9 := Below.grown hB0 hg9 (Below.size hB0) (fun k hk => by injection hk with hk; omega)
          clear b0 b1 b2 b3 b4 b5 b6
          go_wp2_with fail
          exact bodyPost_ret (v := .tuple #[SV.val V8, .int .i64 0]) (by simp [results, Tryz.results47, go_sem, SV.val, p0, p1, p2, p3, p4, p5, p6]) rfl (actOk hfin.out (hO9.from_ hle) hfin9)
  · have hne : (checkState p s != 0) = true := by simpa using hc
    have hfin := Lib.hid (cancel_bad (o := o) hc)
    clear hc
    have hbx9 := hR.out _ h1
    go_wp2_with (refine wpList_store_state rfl (.tmp 6) (.tmp 18) rfl rfl (w.heap.size + 1 + 1 + 1) nilSV nilSV hbx9 rfl rfl rfl (fun w9 hbox9 hg9 => ?_))
    obtain ⟨p0, p1, p2, p3, p4, p5, p6⟩ := BoxAt.cells hbox9
    have hfin9 : Below w.heap.size w w9 := Below.grown hB1 hg9 (Below.size hB1) (fun k hk => by injection hk with hk; omega)
    go_wp2_with fail
    exact bodyPost_ret (v := .tuple #[nilSV.val, .int .i64 (checkState p s)]) (by simp [results, Tryz.results47, go_sem, SV.val, p0, p1, p2, p3, p4, p5, p6]) rfl (actErr hfin.out hfin9)
end Wh
namespace Wh
open Go Go.RowKit Go.Shelf Go.Proofs
attribute [local go_sem] run_indexAt_letter evL_tmp evL_const evL_func

def pk1 (s : State) (c g : Nat) (n : Int) : State := { s with on := setCell s.on c g (cell s.on c g - n) }
def pk2 (s : State) (c g : Nat) (n : Int) : State := { pk1 s c g n with out := s.out.set g (intAt s.out g + n) }
theorem pk_pre {s : State} {i j c g : Nat} {n : Int} (hg : (s.line i j).good.toNat = g) : ({ pk2 s c g n with holds := withHold s.holds ⟨i, j, c, 0⟩ } : State) = preS s i j c n := by subst hg; rfl

end Wh
