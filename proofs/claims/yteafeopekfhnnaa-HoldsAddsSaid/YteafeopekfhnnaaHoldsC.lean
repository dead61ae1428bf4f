/- keptAt, KeptOf, Kept, SameHolds: walks -/
import Derived.Laws.StructEq
import Derived.Test.YteafeopekfhnnaaHoldsB
namespace Wh
open Go Go.RowKit Go.Shelf Go.Proofs
attribute [local go_sem] run_indexAt_letter

theorem keptAt_hit {l : List Hold} {o ln b : Int} {k : Nat} (hk : k < l.length) (h : sameKey o ln b (hold l k) = true) (hn : ∀ j, j < k → sameKey o ln b (hold l j) = false) : keptAt l o ln b = (hold l k).n := by
  unfold keptAt
  have : l.find? (sameKey o ln b) = some (hold l k) := by
    rw [List.find?_eq_some_iff_getElem]
    refine ⟨h, k, hk, (hold_get hk).symm, fun j hj => ?_⟩
    have := hn j hj
    rw [hold_get (by omega)] at this
    rw [this]; rfl
  rw [this]
theorem keptAt_miss {l : List Hold} {o ln b : Int} (hn : ∀ j, j < l.length → sameKey o ln b (hold l j) = false) : keptAt l o ln b = 0 := by
  refine keptAt_none fun x hx hk => ?_
  obtain ⟨i, hi, rfl⟩ := List.getElem_of_mem hx
  have h := hn i hi
  rw [hold_get hi, sameKey_iff.2 hk] at h
  cases h
theorem key_cases (o ln b : Int) (h : Hold) : ((h.order == o) = false ∧ sameKey o ln b h = false) ∨ ((h.order == o) = true ∧ (h.line == ln) = false ∧ sameKey o ln b h = false) ∨
    ((h.order == o) = true ∧ (h.line == ln) = true ∧ (h.bin == b) = false ∧ sameKey o ln b h = false) ∨ ((h.order == o) = true ∧ (h.line == ln) = true ∧ (h.bin == b) = true ∧ sameKey o ln b h = true) := by
  unfold sameKey
  by_cases h1 : h.order = o <;> by_cases h2 : h.line = ln <;> by_cases h3 : h.bin = b <;> simp [h1, h2, h3]

set_option maxHeartbeats 1000000 in
theorem rKeptAt (w : World) (v : Value) (l : List Hold) (o ln b : Int) (hv : Sl cHold w w.heap.size v l) :
    Calls Try.prog 57 #[v, .int .i64 o, .int .i64 ln, .int .i64 b] w fun e w' => e = .returned (.int .i64 (keptAt l o ln b)) ∧ w = w' := by
  obtain ⟨A, c, rfl, hl, hA⟩ := hv
  go_enter Try.func57, Try.ntmps57
  go_wp2_with fail
  go_loop [9] (fun i => ∃ k : Nat, k ≤ l.length ∧ i = .int .i64 k ∧ (∀ j, j < k → sameKey o ln b (hold l j) = false)) (fun i => l.length - (intOf i).toNat)
  case atStart => exact ⟨0, Nat.zero_le _, rfl, fun j hj => by omega⟩
  case round =>
    obtain ⟨k, hk, rfl, hall⟩ := hrel
    have hall' := Lib.hid hall
    clear hall
    by_cases hlt : k < l.length
    · obtain ⟨hok, hAb, b0, b1, b2, b3⟩ := hA.hold hlt
      rcases key_cases o ln b (hold l k) with ⟨g1, hs⟩ | ⟨g1, g2, hs⟩ | ⟨g1, g2, g3, hs⟩ | ⟨g1, g2, g3, hs⟩
      · have hs' := Lib.hid hs
        clear hs
        go_wp2_with fail
        go_round
        case rel =>
          refine ⟨k + 1, by omega, by go_num, fun j hj => ?_⟩
          rcases Nat.lt_succ_iff_lt_or_eq.1 hj with h | rfl
          · exact hall'.out j h
          · exact hs'.out
        case measure => simp [intOf]; omega
      · have hs' := Lib.hid hs
        clear hs
        go_wp2_with fail
        go_round
        case rel =>
          refine ⟨k + 1, by omega, by go_num, fun j hj => ?_⟩
          rcases Nat.lt_succ_iff_lt_or_eq.1 hj with h | rfl
          · exact hall'.out j h
          · exact hs'.out
        case measure => simp [intOf]; omega
      · have hs' := Lib.hid hs
        clear hs
        go_wp2_with fail
        go_round
        case rel =>
          refine ⟨k + 1, by omega, by go_num, fun j hj => ?_⟩
          rcases Nat.lt_succ_iff_lt_or_eq.1 hj with h | rfl
          · exact hall'.out j h
          · exact hs'.out
        case measure => simp [intOf]; omega
      · have hfin := Lib.hid (keptAt_hit hlt hs hall'.out)
        clear hs
        go_wp2_with fail
        go_ret
        exact ⟨ret_int hfin.out.symm, rfl⟩
    · obtain rfl : k = l.length := by omega
      have hfin := Lib.hid (keptAt_miss hall'.out)
      go_wp2_with fail
      go_ret
      exact ⟨ret_int hfin.out.symm, rfl⟩

set_option maxHeartbeats 1000000 in
theorem rKeptOf (w : World) (v : Value) (l : List Hold) (o ln : Int) (hv : Sl cHold w w.heap.size v l) (hok : holdsOk l = true) :
    Calls Try.prog 33 #[v, .int .i64 o, .int .i64 ln] w fun e w' => e = .returned (.int .i64 (kept l o ln)) ∧ w = w' := by
  have hV := hv
  obtain ⟨A, c, rfl, hl, hA⟩ := hv
  obtain ⟨g1, g2⟩ := holdsOk_iff.1 hok
  have hr := fun b => keptAt_range g1 g2 o ln b
  have hfin := Lib.hid (kept_bins hok o ln)
  have hr' := Lib.hid hr
  clear hok g1 g2 hr
  go_enter Try.func33, Try.ntmps33
  go_wp2_with fail
  go_loop [7, 8] (fun n i => ∃ k : Nat, k ≤ 6 ∧ i = .int .i64 k ∧ n = .int .i64 (sumTo (fun b => keptAt l o ln b) k)) (fun _ i => 6 - (intOf i).toNat)
  case atStart => exact ⟨0, by omega, rfl, rfl⟩
  case round =>
    obtain ⟨k, hk, rfl, rfl⟩ := hrel
    obtain ⟨u1, u2⟩ := sumTo_bounds (f := fun b => keptAt l o ln b) (n := k) (m := 200) (fun j _ => hr'.out j)
    have u3 : sumTo (fun b => keptAt l o ln b) k ≤ 1200 := by omega
    clear u2
    by_cases hlt : k < 6
    · obtain ⟨q1, q2⟩ := hr'.out k
      go_wp2_with fail
      refine (rKeptAt _ _ _ _ _ _ hV).mono ?_
      rintro e w' ⟨rfl, rfl⟩
      go_wp2_with fail
      go_round
      case rel => exact ⟨k + 1, by omega, by go_num, rfl⟩
      case measure => simp [intOf]; omega
    · obtain rfl : k = 6 := by omega
      go_wp2_with fail
      go_ret
      exact ⟨ret_int hfin.out.symm, rfl⟩

theorem line_cases (o ln : Int) (h : Hold) : ((h.order == o) = false ∧ sameLine o ln h = false) ∨ ((h.order == o) = true ∧ (h.line == ln) = false ∧ sameLine o ln h = false) ∨
    ((h.order == o) = true ∧ (h.line == ln) = true ∧ sameLine o ln h = true) := by
  unfold sameLine
  by_cases h1 : h.order = o <;> by_cases h2 : h.line = ln <;> simp [h1, h2]
def keptTo (l : List Hold) (o ln : Int) (k : Nat) : Int := kept (l.take k) o ln
theorem keptTo_yes {l : List Hold} {o ln : Int} {k : Nat} (hk : k < l.length) (h : sameLine o ln (hold l k) = true) : keptTo l o ln (k + 1) = keptTo l o ln k + (hold l k).n := by
  unfold keptTo kept
  rw [List.take_succ_eq_append_getElem hk, List.filter_append, ← hold_get hk, List.filter_cons, h]
  simp
theorem keptTo_no {l : List Hold} {o ln : Int} {k : Nat} (hk : k < l.length) (h : sameLine o ln (hold l k) = false) : keptTo l o ln (k + 1) = keptTo l o ln k := by
  unfold keptTo kept
  rw [List.take_succ_eq_append_getElem hk, List.filter_append, ← hold_get hk, List.filter_cons, h]
  simp
theorem ok_take {l : List Hold} (h : holdsOk l = true) (k : Nat) : holdsOk (l.take k) = true := by
  obtain ⟨g1, g2⟩ := holdsOk_iff.1 h
  exact holdsOk_iff.2 ⟨fun x hx => g1 x (List.mem_of_mem_take hx), g2.sublist (List.take_sublist k l)⟩
theorem check_ok {l : List Hold} : checkHolds l = 0 ↔ holdsOk l = true := by
  unfold checkHolds
  cases holdsOk l <;> simp

set_option maxHeartbeats 1000000 in
theorem hdKept (w : World) (v : Value) (l : List Hold) (o ln : Int) (hv : Sl cHold w w.heap.size v l) :
    Calls Try.prog 30 #[v, .int .i64 o, .int .i64 ln] w fun e w' => e = .returned (.tuple #[.int .i64 (keptE l o ln).1, .int .i64 (keptE l o ln).2]) ∧ Below w.heap.size w w' := by
  have hV := hv
  obtain ⟨A, c, rfl, hl, hA⟩ := hv
  go_enter Try.func30, Try.ntmps30
  go_wp2_with fail
  refine (hdCheck _ _ _ hV).mono ?_
  rintro e W1 ⟨rfl, hb1⟩
  cases hok : holdsOk l
  · have hc : checkHolds l = 1 := by unfold checkHolds; rw [hok]; rfl
    have hk : keptE l o ln = (0, 1) := by unfold keptE; rw [hok]; rfl
    have hk' := Lib.hid hk
    rw [hc]
    clear hc hk
    go_wp2_with fail
    go_ret2
    exact ⟨ret2 (by rw [hk'.out]; rfl) (by rw [hk'.out]; rfl), hb1⟩
  · have hc : checkHolds l = 0 := check_ok.2 hok
    have hk : keptE l o ln = (kept l o ln, 0) := by unfold keptE; rw [hok]; rfl
    have hrg := fun k => kept_range (ok_take hok k) o ln
    have hrg' := Lib.hid hrg
    have hk' := Lib.hid hk
    rw [hc]
    clear hc hk hok hrg
    go_wp2_with fail
    go_loopw [9, 19, 11] (fun n i _ wr => ∃ k : Nat, k ≤ l.length ∧ i = .int .i64 k ∧ n = .int .i64 (keptTo l o ln k) ∧ Below W1.heap.size W1 wr) (fun _ i _ _ => l.length - (intOf i).toNat)
    case atStart => exact ⟨0, Nat.zero_le _, rfl, rfl, Below.refl _ _⟩
    case round =>
      obtain ⟨k, hk, rfl, rfl, hbw⟩ := hrel
      obtain ⟨u1, u2⟩ := hrg'.out k
      change 0 ≤ keptTo l o ln k at u1
      change keptTo l o ln k ≤ 1200 at u2
      by_cases hlt : k < l.length
      · have hb01 := hb1.trans (hbw.mono hb1.size)
        obtain ⟨hok, hAb, b0, b1, b2, b3⟩ := (hA.up hb01 hb01.size).hold hlt
        obtain ⟨u3, u4⟩ := hrg'.out (k + 1)
        change 0 ≤ keptTo l o ln (k + 1) at u3
        change keptTo l o ln (k + 1) ≤ 1200 at u4
        rcases line_cases o ln (hold l k) with ⟨g1, hs⟩ | ⟨g1, g2, hs⟩ | ⟨g1, g2, hs⟩
        · have hs' := Lib.hid (keptTo_no hlt hs)
          clear hs
          go_wp2_with fail
          go_roundw
          case rel => exact ⟨k + 1, by omega, by go_num, by rw [hs'.out], hbw.alloc hbw.size _⟩
          case measure => simp [intOf]; omega
        · have hs' := Lib.hid (keptTo_no hlt hs)
          clear hs
          go_wp2_with fail
          go_roundw
          case rel => exact ⟨k + 1, by omega, by go_num, by rw [hs'.out], hbw.alloc hbw.size _⟩
          case measure => simp [intOf]; omega
        · have hs' := Lib.hid (keptTo_yes hlt hs)
          rw [hs'.out] at u3 u4
          clear hs
          go_wp2_with fail
          go_roundw
          case rel => exact ⟨k + 1, by omega, by go_num, by rw [hs'.out], hbw.alloc hbw.size _⟩
          case measure => simp [intOf]; omega
      · obtain rfl : k = l.length := by omega
        have hfin := Lib.hid (show keptTo l o ln l.length = kept l o ln by unfold keptTo; rw [List.take_length])
        go_wp2_with fail
        go_ret2
        exact ⟨ret2 (by rw [hk'.out, ← hfin.out]; rfl) (by rw [hk'.out]; rfl), hb1.trans (hbw.mono hb1.size)⟩

theorem struct_eq {P : Program} {t : TypeId} (hS : P.underlying t = some (.struct (P.fieldsOf t))) (hp : P.stoodInHeld t = false) (xs ys : Array Value) (b : Bool) (h : ∀ w, (Op.eqFields 9999 xs ys (P.fieldsOf t).toList).run P w = .ok b w) (w : World) :
    (binOp .neq t (.agg xs) (.agg ys)).run P w = .ok (.bool (!b)) w := by
  rw [run_neq_struct, show (10000 : Nat) = 9999 + 1 from rfl, run_equalIn_agg w 9999 t _ _ hS hp, h]
  rfl
theorem hold_eq {x y : Hold} : x = y ↔ x.order = y.order ∧ x.line = y.line ∧ x.bin = y.bin ∧ x.n = y.n := by
  cases x; cases y; simp
theorem neqHold (x y : Hold) (w : World) : (binOp .neq 58 (.agg #[.int .i64 (x).order, .int .i64 (x).line, .int .i64 (x).bin, .int .i64 (x).n]) (.agg #[.int .i64 (y).order, .int .i64 (y).line, .int .i64 (y).bin, .int .i64 (y).n])).run Try.prog w = .ok (.bool (!decide (x = y))) w := by
  refine struct_eq (by kernel_rfl) (by kernel_rfl) _ _ _ (fun w => ?_) w
  have u3 := Try.underlying3
  have a3 := Try.isAgg3
  have z3 := Try.sizeOf3
  simp only [Program.fieldsOf, Try.underlying58]
  go_simp
  by_cases h1 : x.order = y.order <;> by_cases h2 : x.line = y.line <;> by_cases h3 : x.bin = y.bin <;> by_cases h4 : x.n = y.n <;> simp [h1, h2, h3, h4, hold_eq]

set_option maxHeartbeats 1000000 in
theorem rSameHolds (w : World) (va vb : Value) (a b : List Hold) (ha : Sl cHold w w.heap.size va a) (hb : Sl cHold w w.heap.size vb b) :
    Calls Try.prog 36 #[va, vb] w fun e w' => e = .returned (.bool (decide (a = b))) ∧ Below w.heap.size w w' := by
  obtain ⟨A, c, rfl, hl, hA⟩ := ha
  obtain ⟨B, d, rfl, hl2, hB⟩ := hb
  have hq := neqHold
  have hg : Try.prog.eqGuardType Try.prog.depth 58 = false := by kernel_rfl
  go_enter Try.func36, Try.ntmps36
  by_cases hlen : a.length = b.length
  · have hnb : ((a.length : Int) != (b.length : Int)) = false := by rw [hlen]; simp
    have hle1 := Nat.le_of_eq hlen
    have hle2 := Nat.le_of_eq hlen.symm
    have hlen' := Lib.hid hlen
    clear hlen
    go_wp2_with fail
    go_loopw [5] (fun i wr => ∃ k : Nat, k ≤ a.length ∧ i = .int .i64 k ∧ (∀ j, j < k → hold a j = hold b j) ∧ Below w.heap.size w wr) (fun i _ => a.length - (intOf i).toNat)
    case atStart => exact ⟨0, Nat.zero_le _, rfl, fun j hj => by omega, Below.refl _ _⟩
    case round =>
      obtain ⟨k, hk, rfl, hall, hbw⟩ := hrel
      have hall' := Lib.hid hall
      clear hall
      by_cases hlt : k < a.length
      · have hlt2 : k < b.length := by omega
        obtain ⟨o1, o2, o3, o4, o5, o6⟩ := (hA.up hbw hbw.size).hold hlt
        obtain ⟨p1, p2, p3, p4, p5, p6⟩ := (hB.up hbw hbw.size).hold hlt2
        by_cases he : hold a k = hold b k
        · have heb : decide (hold a k = hold b k) = true := by rw [he]; simp
          have he' := Lib.hid he
          clear he
          go_wp2_with fail
          go_quiet (fail)
          go_wp2_with fail
          go_roundw
          case rel =>
            refine ⟨k + 1, by omega, by go_num, fun j hj => ?_, below_drewN hbw _⟩
            rcases Nat.lt_succ_iff_lt_or_eq.1 hj with h | rfl
            · exact hall'.out j h
            · exact he'.out
          case measure => simp [intOf]; omega
        · have heb : decide (hold a k = hold b k) = false := by simp [he]
          have hne := Lib.hid (show a ≠ b from fun e => he (by rw [e]))
          go_wp2_with fail
          go_quiet (fail)
          go_wp2_with fail
          go_ret
          exact ⟨ret_bool (by rw [decide_eq_false hne.out]), below_drewN hbw _⟩
      · obtain rfl : k = a.length := by omega
        have heq : a = b := List.ext_getElem hlen'.out fun i h1 h2 => by rw [← hold_get h1, ← hold_get h2]; exact hall'.out i h1
        have heq' := Lib.hid heq
        clear heq
        go_wp2_with fail
        go_ret
        exact ⟨ret_bool (by rw [decide_eq_true heq'.out]), hbw⟩
  · have hne := Lib.hid (show a ≠ b from fun e => hlen (by rw [e]))
    have hnb : ((a.length : Int) != (b.length : Int)) = true := by simp; omega
    go_wp2_with fail
    go_ret
    exact ⟨ret_bool (by rw [decide_eq_false hne.out]), Below.refl _ _⟩
end Wh
