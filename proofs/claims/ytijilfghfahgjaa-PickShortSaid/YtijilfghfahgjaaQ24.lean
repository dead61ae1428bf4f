/- Texts of the claim, joined: PickD, PickE. -/
import Derived.BigRegion
import Derived.Deep.CutRange
import Derived.Test.YtijilfghfahgjaaQ23
import Derived.Test.YtijilfghfahgjaaQ20
namespace Wh
open Go Go.RowKit Go.Shelf Go.Proofs
attribute [local go_sem] run_indexAt_letter evL_tmp evL_const evL_func

/-- Whether all was got, as far as the law has come. -/
def flg (x : State) (i a b : Nat) : Bool := if a < i then true else if a = i then gotTo (x.order i) b else allGot (x.order i)
theorem flg_zero (x : State) (i : Nat) : flg x i 0 0 = true := by
  unfold flg
  split
  · rfl
  · split
    · rfl
    · omega
theorem flg_next (x : State) (i a : Nat) : flg x i a (x.order a).lines.length = flg x i (a + 1) 0 := by
  unfold flg
  by_cases h : a < i
  · rw [if_pos h]
    by_cases h2 : a + 1 < i
    · rw [if_pos h2]
    · rw [if_neg h2, if_pos (by omega)]
      rfl
  · rw [if_neg h]
    by_cases h2 : a = i
    · subst h2
      rw [if_pos rfl, gotTo_all, if_neg (by omega), if_neg (by omega)]
    · rw [if_neg h2, if_neg (by omega), if_neg (by omega)]
theorem flg_other {x : State} {i a : Nat} (h : a ≠ i) (b : Nat) : flg x i a (b + 1) = flg x i a b := by
  unfold flg
  by_cases h1 : a < i
  · rw [if_pos h1, if_pos h1]
  · rw [if_neg h1, if_neg h1, if_neg h, if_neg h]
theorem flg_mine {x : State} {i b : Nat} (hb : b < (x.order i).lines.length) : flg x i i (b + 1) = (flg x i i b && decide ((x.line i b).got = (x.line i b).want)) := by
  unfold flg
  rw [if_neg (Nat.lt_irrefl i), if_neg (Nat.lt_irrefl i), if_pos rfl, if_pos rfl, gotTo_succ hb]
  rfl
theorem flg_end (x : State) {i a : Nat} (h : i < a) : flg x i a 0 = allGot (x.order i) := by
  unfold flg
  rw [if_neg (by omega), if_neg (by omega)]
theorem pkPickAt {p : Plan} {s x : State} {o k b n c : Int} (h : pick p s o k b n = (x, c)) (w : World) (v vs : Value) (hp : PlanV w w.heap.size v p) (hv : StateV w w.heap.size vs s) :
    Calls Try.prog 22 #[v, vs, .int .i64 o, .int .i64 k, .int .i64 b, .int .i64 n] w fun e w' => ∃ V : SV, e = .returned (.tuple #[V.val, .int .i64 c]) ∧ OwnSt w' w.heap.size V x ∧ Below w.heap.size w w' := by
  have := pkPick w v vs p s o k b n hp hv
  rw [h] at this
  exact this
/-- What the law asks of a pick that went. -/
theorem pick_true {p : Plan} {s x : State} {o k b n : Int} (h : pick p s o k b n = (x, 0)) : ∃ i j : Nat, o = i ∧ k = j ∧ i < s.orders.length ∧ checkState p s = 0 ∧ checkState p x = 0 ∧ x.orders.length = s.orders.length ∧ (∀ o', (x.order o').lines.length = (s.order o').lines.length) ∧
    (∀ o' k' : Nat, ¬ (o' = i ∧ k' = j) → kept x.holds o' k' = kept s.holds o' k' ∧ x.line o' k' = s.line o' k') ∧ (x.line i j).got = (s.line i j).got + n ∧ (0 ≤ n ∧ n ≤ 200) ∧ (((x.order i).kind == 2) = allGot (x.order i)) := by
  have h0 : (pick p s o k b n).2 = 0 := by rw [h]
  obtain ⟨hc, i, j, c, rfl, rfl, rfl, f, e⟩ := pick_right h0
  rw [h] at e
  simp only at e
  subst e
  obtain ⟨h1, h2, h3, h4, h5, h6⟩ := pickS_true hc f
  have hr := keptAt_range (holdsOk_iff.1 (right_of_check hc).sane.holds).1 (holdsOk_iff.1 (right_of_check hc).sane.holds).2 (i : Int) j c
  refine ⟨i, j, rfl, rfl, f.ho, hc, h1, h2, h3, h4, h5, ⟨f.n0, by have := f.n1; omega⟩, ?_⟩
  cases ha : allGot ((pickS p s i j c n).order i)
  · rw [ha] at h6
    exact beq_eq_false_iff_ne.2 (fun hh => by have := h6.1 hh; cases this)
  · rw [ha] at h6
    exact beq_iff_eq.2 (h6.2 rfl)

set_option maxHeartbeats 20000000 in
set_option maxRecDepth 100000 in
theorem pickTrueWalk (w : World) (v vs : Value) (p : Plan) (s : State) (o k b n : Int) (hp : PlanV w w.heap.size v p) (hv : StateV w w.heap.size vs s) :
    Calls Try.prog 7 #[v, vs, .int .i64 o, .int .i64 k, .int .i64 b, .int .i64 n] w fun e w' => e = .returned (.bool true) ∧ Below w.heap.size w w' := by
  obtain ⟨x, c, hT⟩ : ∃ x c, pick p s o k b n = (x, c) := ⟨_, _, rfl⟩
  have hT' := Lib.hid hT
  have hsm := Lib.hid (show small x = true by have := pick_small p s o k b n; rwa [hT] at this)
  by_cases hc : c = 0
  · subst hc
    obtain ⟨i, j, rfl, rfl, hi, hcs, hcx, hxl, hxn, hxo, hxg, hnr, hxk⟩ := pick_true hT
    have hcx' := Lib.hid hcx
    have hsn := Lib.hid (checkState_zero.1 hcs).1
    have hsx := Lib.hid (checkState_zero.1 hcx).1
    have hxl' := Lib.hid hxl
    have hxn' := Lib.hid hxn
    have hxo' := Lib.hid hxo
    have hxg' := Lib.hid hxg
    have hxk' := Lib.hid hxk
    have hnr' := Lib.hid hnr
    have hi' : (i : Int) < s.orders.length := by omega
    have z3 : decide ((i : Int) < 0) = false := decide_eq_false (by omega)
    have z4 : decide (s.orders.length ≤ i) = false := decide_eq_false (by omega)
    clear hT hcs hcx hxl hxn hxo hxg hxk hnr
    obtain ⟨Ab, cb, As, cs, rfl, hP', hBn, hSz, hlb, hls⟩ := openPl hp
    obtain ⟨A0, c0, A1, c1, A2, c2, A3, c3, A4, c4, A5, c5, A6, c6, rfl, hV, hN, hO, hH, hM, hI, hU, hX, hl0, hl1, hl2, hl3, hl4, hl5, hl6⟩ := openOne hv
    go_enter Try.func7, Try.ntmps7
    go_wp2_with fail
    obtain ⟨W0, hW0, hb0, hsz0, hsz1, hsE, hK⟩ := boxesTwo w p s Ab cb As cs A0 c0 A1 c1 A2 c2 A3 c3 A4 c4 A5 c5 A6 c6
    rw [hW0]
    clear hW0
    obtain ⟨⟨y0, y1⟩, x0, x1, x2, x3, x4, x5, x6, hbz0, hbz1⟩ := hK.out W0 (Below.refl W0.heap.size W0)
    go_wp2_with fail
    clear y0 y1 x0 x1 x2 x3 x4 x5 x6 hbz0 hbz1
    refine (pkPickAt hT'.out _ _ _ (hP'.out _ hb0) (hV.out _ hb0)).mono ?_
    rintro e W1 ⟨V1, rfl, ho1, hb1⟩
    obtain ⟨Ao, co, hvo⟩ := ho1.ordersSlice
    rw [hxl'.out] at hvo
    obtain ⟨b0, b1, b2, b3, b4, b5, b6, b7, b8⟩ := V1
    obtain rfl : b1 = .slice Ao s.orders.length co := hvo
    have hone2 := (ho1).one
    have hnb2 := newBox (W1)
    go_wp2_with (refine wpList_store_state rfl (.tmp 13) (.tmp 33) rfl rfl (World.heap (W1)).size nilSV (⟨b0, .slice Ao s.orders.length co, b2, b3, b4, b5, b6, b7, b8⟩ : SV) hnb2 rfl rfl hone2 (fun w2 hbox2 hg2 => ?_); refine Hid.out ?_)
    unfold Hid
    have hbb2 := newBelow hg2
    have hbl2 := hbox2.lt
    clear hone2 hnb2 hg2
    have h02 := hb1.trans (hbb2.mono hb1.size)
    have hB2 := hb0.trans (h02.mono hb0.size)
    have hO2 := Lib.hid (ho1.below hbb2)
    have hv2 := Lib.hid (hO2.out.view0 hsm.out)
    have hbox2' := Lib.hid hbox2
    clear hbox2 ho1 hb1 hbb2
    obtain ⟨⟨y0, y1⟩, x0, x1, x2, x3, x4, x5, x6, hbz0, hbz1⟩ := hK.out w2 (h02)
    obtain ⟨p0, p1, p2, p3, p4, p5, p6⟩ := hbox2'.out.cells
    go_wp2_with fail
    clear y0 y1 x0 x1 x2 x3 x4 x5 x6 hbz0 hbz1
    clear p0 p1 p2 p3 p4 p5 p6
    refine (sCheckAt _ _ _ (hP'.out _ hB2) hv2.out hcx'.out).mono ?_
    rintro e W3 ⟨rfl, h24⟩
    have h04 := h02.trans (h24.mono h02.size)
    obtain ⟨⟨y0, y1⟩, x0, x1, x2, x3, x4, x5, x6, hbz0, hbz1⟩ := hK.out W3 (h04)
    have p1 : W3.cell? ⟨W1.heap.size, 1, none⟩ = some (.slice Ao s.orders.length co) := (hbox2'.out.below h24 hbl2).cells.2.1
    go_wp2_with fail
    clear y0 y1 x0 x1 x2 x3 x4 x5 x6 hbz0 hbz1
    clear p1 h04 z3 z4
    go_loopw [15, 16, 17, 18, 19, 20, 21, 22, 23, 24] (fun al o' _ _ _ _ _ _ _ _ wr => ∃ a : Nat, a ≤ s.orders.length ∧ o' = .int .i64 a ∧ al = .bool (flg x i a 0) ∧ Below w2.heap.size w2 wr) (fun _ o' _ _ _ _ _ _ _ _ _ => s.orders.length - (intOf o').toNat)
    case atStart => exact ⟨0, Nat.zero_le _, rfl, by rw [flg_zero], h24⟩
    case round =>
      clear h24
      obtain ⟨a, ha, rfl, rfl, h24⟩ := hrel
      have h04 := h02.trans (h24.mono h02.size)
      have hB4 := hb0.trans (h04.mono hb0.size)
      obtain ⟨⟨y0, y1⟩, x0, x1, x2, x3, x4, x5, x6, hbz0, hbz1⟩ := hK.out wr (h04)
      by_cases ha1 : a < s.orders.length
      · have ha' : (a : Int) < (s.orders.length : Int) := by omega
        have l3 := (hsn.out.lines3 ha1).2
        change (orderAt s.orders a).lines.length ≤ 3 at l3
        have hax : a < x.orders.length := by rw [hxl'.out]; exact ha1
        obtain ⟨Al, cl, ol, ll, d0, d1, hsl⟩ := (hO.out wr hB4).order ha1
        obtain ⟨go, _, _, eo, -⟩ := (hO2.out.below h24).orderAt hax
        injection eo with eo e2 e3
        subst eo
        clear e2 e3
        obtain ⟨_, _, z0, z1⟩ := (hO2.out.below h24).orderCells hax rfl
        obtain ⟨Av, cv, ev⟩ := ((hO2.out.below h24).line a hax).isSlice
        rw [ev, hxn'.out] at z1
        change wr.cell? _ = some (.slice Av (orderAt s.orders a).lines.length cv) at z1
        have p1 : wr.cell? ⟨W1.heap.size, 1, none⟩ = some (.slice (some ⟨go, 0, none⟩) s.orders.length co) := (hbox2'.out.below h24 hbl2).cells.2.1
        clear ev z0
        go_wp2_with fail
        go_quiet (fail)
        go_wp2_with fail
        clear y0 y1 x0 x1 x2 x3 x4 x5 x6 hbz0 hbz1
        clear p1 z1 d0 d1 hsl
        have h24q := below_drewN h24 nq
        generalize wr.drewN nq = wq at h24q ⊢
        clear h24 h04 hB4
        go_loopw [15, 17, 18, 19, 20, 21, 22, 23, 24] (fun al k' _ _ _ _ _ _ _ wt => ∃ m : Nat, m ≤ (orderAt s.orders a).lines.length ∧ k' = .int .i64 m ∧ al = .bool (flg x i a m) ∧ Below w2.heap.size w2 wt) (fun _ k' _ _ _ _ _ _ _ _ => (orderAt s.orders a).lines.length - (intOf k').toNat)
        case atStart => exact ⟨0, Nat.zero_le _, rfl, rfl, h24q⟩
        case round =>
          clear h24q
          obtain ⟨m, hm, rfl, rfl, h24⟩ := hrel
          have h04 := h02.trans (h24.mono h02.size)
          have hB4 := hb0.trans (h04.mono hb0.size)
          obtain ⟨⟨y0, y1⟩, x0, x1, x2, x3, x4, x5, x6, hbz0, hbz1⟩ := hK.out wr (h04)
          obtain ⟨Al, cl, ol, ll, d0, d1, hsl⟩ := (hO.out wr hB4).order ha1
          by_cases hm1 : m < (orderAt s.orders a).lines.length
          · have hm' : (m : Int) < ((orderAt s.orders a).lines.length : Int) := by omega
            have hmx : m < (x.order a).lines.length := by rw [hxn'.out]; exact hm1
            go_wp2_with fail
            clear y0 y1 x0 x1 x2 x3 x4 x5 x6 hbz0 hbz1
            clear d0 d1 hsl
            refine (hdKeptAt _ _ s.holds a m hsn.out.holds (hH.out _ hB4)).mono ?_
            rintro e W5 ⟨rfl, h5⟩
            have h25 := h24.trans (h5.mono h24.size)
            have h05 := h02.trans (h25.mono h02.size)
            obtain ⟨⟨y0, y1⟩, x0, x1, x2, x3, x4, x5, x6, hbz0, hbz1⟩ := hK.out W5 (h05)
            obtain ⟨_, _, p2, _, _, _, _⟩ := (hbox2'.out.below h25 hbl2).cells
            go_wp2_with fail
            clear y0 y1 x0 x1 x2 x3 x4 x5 x6 hbz0 hbz1
            clear p2 h24 h04 hB4
            refine (hdKeptAt _ _ x.holds a m hsx.out.holds (hv2.out.grow h25).holdsV).mono ?_
            rintro e W6 ⟨rfl, h6⟩
            have h26 := h25.trans (h6.mono h25.size)
            have h06 := h02.trans (h26.mono h02.size)
            have hB6 := hb0.trans (h06.mono hb0.size)
            obtain ⟨⟨y0, y1⟩, x0, x1, x2, x3, x4, x5, x6, hbz0, hbz1⟩ := hK.out W6 (h06)
            obtain ⟨Al, cl, ol, ll, d0, d1, hsl⟩ := (hO.out W6 hB6).order ha1
            obtain ⟨ok2, l2, e0, e1, e2, e3⟩ := hsl.at_.line hm1
            obtain ⟨_, hgol, z0, z1⟩ := (hO2.out.below h26).orderCells hax rfl
            obtain ⟨gl, cv, curv, ev, hgl, hblk, f0, f1, f2, f3⟩ := (hO2.out.below h26).lineAt hax hmx
            rw [ev, hxn'.out] at z1
            change W6.cell? _ = some (.slice _ (orderAt s.orders a).lines.length cv) at z1
            have p1 : W6.cell? ⟨W1.heap.size, 1, none⟩ = some (.slice (some ⟨go, 0, none⟩) s.orders.length co) := (hbox2'.out.below h26 hbl2).cells.2.1
            change W6.cell? _ = some (.int .i64 (s.line a m).good) at e0
            change W6.cell? _ = some (.int .i64 (s.line a m).want) at e1
            change W6.cell? _ = some (.int .i64 (s.line a m).got) at e2
            change W6.cell? _ = some (.int .i64 (s.line a m).back) at e3
            have t13 : W1.heap.size < W6.heap.size := Nat.lt_of_lt_of_le hbl2 h26.size
            have tgl := hblk.lt
            clear ev z0 d0 hblk
            go_wp2_with fail
            have kAB1 : Blk ((W6.alloc (.cells #[.int .i64 (s.line a m).good, .int .i64 (s.line a m).want, .int .i64 (s.line a m).got, .int .i64 (s.line a m).back] 56)).alloc (.cells #[.int .i64 (x.line a m).good, .int .i64 (x.line a m).want, .int .i64 (x.line a m).got, .int .i64 (x.line a m).back] 56)).drew W6.heap.size 56 [.int .i64 (s.line a m).good, .int .i64 (s.line a m).want, .int .i64 (s.line a m).got, .int .i64 (s.line a m).back] ∧ Blk ((W6.alloc (.cells #[.int .i64 (s.line a m).good, .int .i64 (s.line a m).want, .int .i64 (s.line a m).got, .int .i64 (s.line a m).back] 56)).alloc (.cells #[.int .i64 (x.line a m).good, .int .i64 (x.line a m).want, .int .i64 (x.line a m).got, .int .i64 (x.line a m).back] 56)).drew (W6.heap.size + 1) 56 [.int .i64 (x.line a m).good, .int .i64 (x.line a m).want, .int .i64 (x.line a m).got, .int .i64 (x.line a m).back] ∧
                Below w2.heap.size w2 ((W6.alloc (.cells #[.int .i64 (s.line a m).good, .int .i64 (s.line a m).want, .int .i64 (s.line a m).got, .int .i64 (s.line a m).back] 56)).alloc (.cells #[.int .i64 (x.line a m).good, .int .i64 (x.line a m).want, .int .i64 (x.line a m).got, .int .i64 (x.line a m).back] 56)).drew := by
              have k1 := Blk.new (W6.alloc (.cells #[.int .i64 (s.line a m).good, .int .i64 (s.line a m).want, .int .i64 (s.line a m).got, .int .i64 (s.line a m).back] 56)) 56 #[.int .i64 (x.line a m).good, .int .i64 (x.line a m).want, .int .i64 (x.line a m).got, .int .i64 (x.line a m).back]
              rw [World.size_alloc] at k1
              exact ⟨(Blk.new W6 56 #[.int .i64 (s.line a m).good, .int .i64 (s.line a m).want, .int .i64 (s.line a m).got, .int .i64 (s.line a m).back]).alloc _, k1, ((h26.alloc h26.size _).alloc (by have := h26.size; simp; omega) _).drew⟩
            have kAB2 : Blk ((W6.alloc (.cells #[.int .i64 (x.line a m).good, .int .i64 (x.line a m).want, .int .i64 (x.line a m).got, .int .i64 (x.line a m).back] 56)).alloc (.cells #[.int .i64 (s.line a m).good, .int .i64 (s.line a m).want, .int .i64 (s.line a m).got, .int .i64 (s.line a m).back] 56)).drew (W6.heap.size + 1) 56 [.int .i64 (s.line a m).good, .int .i64 (s.line a m).want, .int .i64 (s.line a m).got, .int .i64 (s.line a m).back] ∧ Blk ((W6.alloc (.cells #[.int .i64 (x.line a m).good, .int .i64 (x.line a m).want, .int .i64 (x.line a m).got, .int .i64 (x.line a m).back] 56)).alloc (.cells #[.int .i64 (s.line a m).good, .int .i64 (s.line a m).want, .int .i64 (s.line a m).got, .int .i64 (s.line a m).back] 56)).drew W6.heap.size 56 [.int .i64 (x.line a m).good, .int .i64 (x.line a m).want, .int .i64 (x.line a m).got, .int .i64 (x.line a m).back] ∧
                Below w2.heap.size w2 ((W6.alloc (.cells #[.int .i64 (x.line a m).good, .int .i64 (x.line a m).want, .int .i64 (x.line a m).got, .int .i64 (x.line a m).back] 56)).alloc (.cells #[.int .i64 (s.line a m).good, .int .i64 (s.line a m).want, .int .i64 (s.line a m).got, .int .i64 (s.line a m).back] 56)).drew := by
              have k1 := Blk.new (W6.alloc (.cells #[.int .i64 (x.line a m).good, .int .i64 (x.line a m).want, .int .i64 (x.line a m).got, .int .i64 (x.line a m).back] 56)) 56 #[.int .i64 (s.line a m).good, .int .i64 (s.line a m).want, .int .i64 (s.line a m).got, .int .i64 (s.line a m).back]
              rw [World.size_alloc] at k1
              exact ⟨k1, (Blk.new W6 56 #[.int .i64 (x.line a m).good, .int .i64 (x.line a m).want, .int .i64 (x.line a m).got, .int .i64 (x.line a m).back]).alloc _, ((h26.alloc h26.size _).alloc (by have := h26.size; simp; omega) _).drew⟩
            have hAB1 := Lib.hid kAB1
            have hAB2 := Lib.hid kAB2
            clear kAB1 kAB2
            go_upto_region 17 with fail
            go_cut [22, 23] from 84 to 181 (fun pa pb wx => ∃ A B : Nat, pa = .pointer (some ⟨A, 0, none⟩) ∧ pb = .pointer (some ⟨B, 0, none⟩) ∧ Blk wx A 56 [.int .i64 (s.line a m).good, .int .i64 (s.line a m).want, .int .i64 (s.line a m).got, .int .i64 (s.line a m).back] ∧ Blk wx B 56 [.int .i64 (x.line a m).good, .int .i64 (x.line a m).want, .int .i64 (x.line a m).got, .int .i64 (x.line a m).back] ∧ Below w2.heap.size w2 wx)
            case first =>
              go_region
              · go_wp2_with fail
                go_meet
                exact ⟨_, _, rfl, rfl, hAB1.out⟩
              · go_wp2_with fail
                go_meet
                exact ⟨_, _, rfl, rfl, hAB2.out⟩
            case rest =>
              obtain ⟨A, B, rfl, rfl, hA, hB, h27⟩ := hcut
              clear hAB1 hAB2 p1 z1 d1 e0 e1 e2 e3 f0 f1 f2 f3 hsl tgl t13 hgol ol ll ok2 l2
              clear y0 y1 x0 x1 x2 x3 x4 x5 x6 hbz0 hbz1
              have a0 := hA.cell (j := 0) rfl
              have a1 := hA.cell (j := 1) rfl
              have a2 := hA.cell (j := 2) rfl
              have a3 := hA.cell (j := 3) rfl
              have tA := hA.lt
              have tB := hB.lt
              by_cases hq : a = i ∧ m = j
              · have q0 := hB.cell (j := 0) rfl
                have q1 := hB.cell (j := 1) rfl
                have q2 := hB.cell (j := 2) rfl
                have q3 := hB.cell (j := 3) rfl
                clear hA hB
                obtain ⟨hqa, hqm⟩ := hq
                have t1 : ((a : Int) == i) = true := by simp; omega
                have t2 : ((m : Int) == j) = true := by simp; omega
                have t3 : ((a : Int) != i) = false := by simp; omega
                have hgt : (x.line a m).got = (s.line a m).got + n := by rw [hqa, hqm]; exact hxg'.out
                have hbn := (hsn.out.line ha1 hm1).2
                have hnr := hnr'.out
                have hwr : IntKind.i64.wrap ((s.line a m).got + n) = (s.line a m).got + n := IntWalk.i64_in _ (by omega)
                have t4 : ((x.line a m).got != (s.line a m).got + n) = false := by rw [hgt]; simp
                have hfm := Lib.hid (show flg x i a (m + 1) = (flg x i a m && decide ((x.line a m).got = (x.line a m).want)) by rw [hqa]; rw [hqa] at hmx; exact flg_mine hmx)
                clear hgt hbn hnr hqa hqm
                cases hfl : flg x i a m
                · have hn := Lib.hid (show flg x i a (m + 1) = false by rw [hfm.out, hfl]; rfl)
                  clear hfl hfm
                  go_wp2_with fail
                  clear a0 a1 a2 a3 q0 q1 q2 q3
                  go_roundw
                  case rel => exact ⟨m + 1, by omega, by go_num, by rw [hn.out], h27⟩
                  case measure => simp [intOf]; omega
                · by_cases hgw : (x.line a m).got = (x.line a m).want
                  · have hgb : ((x.line a m).got == (x.line a m).want) = true := by simpa using hgw
                    have hn := Lib.hid (show flg x i a (m + 1) = true by rw [hfm.out, hfl, decide_eq_true hgw]; rfl)
                    clear hfl hfm hgw
                    go_wp2_with fail
                    clear a0 a1 a2 a3 q0 q1 q2 q3
                    go_roundw
                    case rel => exact ⟨m + 1, by omega, by go_num, by rw [hn.out], h27⟩
                    case measure => simp [intOf]; omega
                  · have hgb : ((x.line a m).got == (x.line a m).want) = false := by simpa using hgw
                    have hn := Lib.hid (show flg x i a (m + 1) = false by rw [hfm.out, hfl, decide_eq_false hgw]; rfl)
                    clear hfl hfm hgw
                    go_wp2_with fail
                    clear a0 a1 a2 a3 q0 q1 q2 q3
                    go_roundw
                    case rel => exact ⟨m + 1, by omega, by go_num, by rw [hn.out], h27⟩
                    case measure => simp [intOf]; omega
              · obtain ⟨hkq, hlq⟩ := hxo'.out a m hq
                rw [hkq]
                rw [hlq] at hB
                have hlq' := Lib.hid hlq
                have q0 := hB.cell (j := 0) rfl
                have q1 := hB.cell (j := 1) rfl
                have q2 := hB.cell (j := 2) rfl
                have q3 := hB.cell (j := 3) rfl
                clear hA hB hkq hlq
                by_cases hqa : a = i
                · have hqm : ¬ m = j := fun h => hq ⟨hqa, h⟩
                  have t1 : ((a : Int) == i) = true := by simp; omega
                  have t2 : ((m : Int) == j) = false := by simp; omega
                  have t3 : ((a : Int) != i) = false := by simp; omega
                  have hfm := Lib.hid (show flg x i a (m + 1) = (flg x i a m && decide ((s.line a m).got = (s.line a m).want)) by rw [← hlq'.out, hqa]; rw [hqa] at hmx; exact flg_mine hmx)
                  clear hqa hqm hq
                  cases hfl : flg x i a m
                  · have hn := Lib.hid (show flg x i a (m + 1) = false by rw [hfm.out, hfl]; rfl)
                    clear hfl hfm
                    go_wp2_with fail
                    clear a0 a1 a2 a3 q0 q1 q2 q3
                    go_roundw
                    case rel => exact ⟨m + 1, by omega, by go_num, by rw [hn.out], h27⟩
                    case measure => simp [intOf]; omega
                  · by_cases hgw : (s.line a m).got = (s.line a m).want
                    · have hgb : ((s.line a m).got == (s.line a m).want) = true := by simpa using hgw
                      have hn := Lib.hid (show flg x i a (m + 1) = true by rw [hfm.out, hfl, decide_eq_true hgw]; rfl)
                      clear hfl hfm hgw
                      go_wp2_with fail
                      clear a0 a1 a2 a3 q0 q1 q2 q3
                      go_roundw
                      case rel => exact ⟨m + 1, by omega, by go_num, by rw [hn.out], h27⟩
                      case measure => simp [intOf]; omega
                    · have hgb : ((s.line a m).got == (s.line a m).want) = false := by simpa using hgw
                      have hn := Lib.hid (show flg x i a (m + 1) = false by rw [hfm.out, hfl, decide_eq_false hgw]; rfl)
                      clear hfl hfm hgw
                      go_wp2_with fail
                      clear a0 a1 a2 a3 q0 q1 q2 q3
                      go_roundw
                      case rel => exact ⟨m + 1, by omega, by go_num, by rw [hn.out], h27⟩
                      case measure => simp [intOf]; omega
                · have t1 : ((a : Int) == i) = false := by simp; omega
                  have t3 : ((a : Int) != i) = true := by simp; omega
                  have hfm := Lib.hid (flg_other (x := x) (i := i) hqa m)
                  clear hqa hq
                  cases hfl : flg x i a m
                  · have hn := Lib.hid (show flg x i a (m + 1) = false by rw [hfm.out, hfl])
                    clear hfl hfm
                    go_wp2_with fail
                    clear a0 a1 a2 a3 q0 q1 q2 q3
                    go_roundw
                    case rel => exact ⟨m + 1, by omega, by go_num, by rw [hn.out], h27⟩
                    case measure => simp [intOf]; omega
                  · have hn := Lib.hid (show flg x i a (m + 1) = true by rw [hfm.out, hfl])
                    clear hfl hfm
                    go_wp2_with fail
                    clear a0 a1 a2 a3 q0 q1 q2 q3
                    go_roundw
                    case rel => exact ⟨m + 1, by omega, by go_num, by rw [hn.out], h27⟩
                    case measure => simp [intOf]; omega
          · obtain rfl : m = (orderAt s.orders a).lines.length := by omega
            have hn := Lib.hid (show flg x i (a + 1) 0 = flg x i a (orderAt s.orders a).lines.length by rw [← flg_next, hxn'.out]; rfl)
            go_wp2_with fail
            clear d0 d1 hsl
            go_roundw
            case rel => exact ⟨a + 1, by omega, by go_num, by rw [hn.out], h24⟩
            case measure => simp [intOf]; omega
      · obtain rfl : a = s.orders.length := by omega
        rw [flg_end x hi]
        have hix : i < x.orders.length := by rw [hxl'.out]; exact hi
        go_wp2_with fail
        clear y0 y1 x0 x1 x2 x3 x4 x5 x6 hbz0 hbz1
        refine (pickBegun _).mono ?_
        rintro e W9 ⟨rfl, h9⟩
        have h29 := h24.trans (h9.mono h24.size)
        have hB9 := hB4.trans (h9.mono hB4.size)
        obtain ⟨go, _, _, eo, -⟩ := (hO2.out.below h29).orderAt hix
        injection eo with eo e2 e3
        subst eo
        clear e2 e3
        obtain ⟨_, _, z0, _⟩ := (hO2.out.below h29).orderCells hix rfl
        have p1 : W9.cell? ⟨W1.heap.size, 1, none⟩ = some (.slice (some ⟨go, 0, none⟩) s.orders.length co) := (hbox2'.out.below h29 hbl2).cells.2.1
        have hk := hxk'.out
        cases hag : allGot (x.order i)
        · rw [hag] at hk
          clear hag
          go_wp2_with fail
          go_ret
          exact ⟨rfl, hB9⟩
        · rw [hag] at hk
          clear hag
          go_wp2_with fail
          go_ret
          exact ⟨rfl, hB9⟩
  · have hne : (c != 0) = true := by simpa using hc
    clear hc hT
    obtain ⟨Ab, cb, As, cs, rfl, hP', hBn, hSz, hlb, hls⟩ := openPl hp
    obtain ⟨A0, c0, A1, c1, A2, c2, A3, c3, A4, c4, A5, c5, A6, c6, rfl, hV, hN, hO, hH, hM, hI, hU, hX, hl0, hl1, hl2, hl3, hl4, hl5, hl6⟩ := openOne hv
    go_enter Try.func7, Try.ntmps7
    go_wp2_with fail
    obtain ⟨W0, hW0, hb0, hsz0, hsz1, hsE, hK⟩ := boxesTwo w p s Ab cb As cs A0 c0 A1 c1 A2 c2 A3 c3 A4 c4 A5 c5 A6 c6
    rw [hW0]
    clear hW0
    obtain ⟨⟨y0, y1⟩, x0, x1, x2, x3, x4, x5, x6, hbz0, hbz1⟩ := hK.out W0 (Below.refl W0.heap.size W0)
    go_wp2_with fail
    clear y0 y1 x0 x1 x2 x3 x4 x5 x6 hbz0 hbz1
    refine (pkPickAt hT'.out _ _ _ (hP'.out _ hb0) (hV.out _ hb0)).mono ?_
    rintro e W1 ⟨V1, rfl, ho1, hb1⟩
    have hone2 := (ho1).one
    have hnb2 := newBox (W1)
    go_wp2_with (refine wpList_store_state rfl (.tmp 13) (.tmp 33) rfl rfl (World.heap (W1)).size nilSV V1 hnb2 rfl rfl hone2 (fun w2 hbox2 hg2 => ?_); refine Hid.out ?_)
    unfold Hid
    have hbb2 := newBelow hg2
    have hbl2 := hbox2.lt
    clear hone2 hnb2 hg2
    have hB2 := hb0.trans ((hb1.trans (hbb2.mono hb1.size)).mono hb0.size)
    clear hbox2 ho1 hb1 hbb2
    go_wp2_with fail
    refine (pickBegun _).mono ?_
    rintro e W9 ⟨rfl, h9⟩
    go_wp2_with fail
    go_ret
    exact ⟨rfl, hB2.trans (h9.mono hB2.size)⟩
end Wh
namespace Wh
open Go Go.RowKit Go.Shelf Go.Proofs
attribute [local go_sem] run_indexAt_letter evL_tmp evL_const evL_func

theorem pick_short {p : Plan} {s x : State} {o k b n : Int} (h : pick p s o k b n = (x, 0)) : ∃ i j c : Nat, o = i ∧ k = j ∧ b = c ∧ i < s.orders.length ∧ j < (s.order i).lines.length ∧ checkState p s = 0 ∧ checkState p x = 0 ∧ x.orders.length = s.orders.length ∧
    (∀ o', (x.order o').lines.length = (s.order o').lines.length) ∧ keptAt x.holds i j c = 0 ∧ (x.line i j).got + (x.line i j).back + kept x.holds i j = (x.line i j).want ∧
    ((s.line i j).back < (x.line i j).back → ∀ b' : Nat, b' < p.bins.length → b' ≠ c → avail x b' (x.line i j).good = 0) := by
  have h0 : (pick p s o k b n).2 = 0 := by rw [h]
  obtain ⟨hc, i, j, c, rfl, rfl, rfl, f, e⟩ := pick_right h0
  rw [h] at e
  simp only at e
  subst e
  obtain ⟨h1, h2, h3, h4, h5, h6⟩ := pickS_true hc f
  obtain ⟨k1, k2, k3, k4⟩ := pickS_short hc f
  exact ⟨i, j, c, rfl, rfl, rfl, f.ho, f.hk, hc, h1, h2, h3, k1, k2, by rw [k3]; exact k4⟩

set_option maxHeartbeats 20000000 in
set_option maxRecDepth 100000 in
theorem pickShortWalk (w : World) (v vs : Value) (p : Plan) (s : State) (o k b n : Int) (hp : PlanV w w.heap.size v p) (hv : StateV w w.heap.size vs s) :
    Calls Try.prog 10 #[v, vs, .int .i64 o, .int .i64 k, .int .i64 b, .int .i64 n] w fun e w' => e = .returned (.bool true) ∧ Below w.heap.size w w' := by
  obtain ⟨x, c, hT⟩ : ∃ x c, pick p s o k b n = (x, c) := ⟨_, _, rfl⟩
  have hT' := Lib.hid hT
  have hsm := Lib.hid (show small x = true by have := pick_small p s o k b n; rwa [hT] at this)
  by_cases hc : c = 0
  · subst hc
    obtain ⟨i, j, c, rfl, rfl, rfl, hi, hj, hcs, hcx, hxl, hxn, hka, hsu, hav⟩ := pick_short hT
    have hcx' := Lib.hid hcx
    have hsx := Lib.hid (checkState_zero.1 hcx).1
    have hsn := Lib.hid (checkState_zero.1 hcs).1
    have hxl' := Lib.hid hxl
    have hxn' := Lib.hid hxn
    have hka' := Lib.hid hka
    have hsu' := Lib.hid hsu
    have hav' := Lib.hid hav
    have hi' : (i : Int) < s.orders.length := by omega
    have hj' : (j : Int) < (orderAt s.orders i).lines.length := by have : j < (orderAt s.orders i).lines.length := hj; omega
    have z3 : decide ((i : Int) < 0) = false := decide_eq_false (by omega)
    have z4 : decide (s.orders.length ≤ i) = false := decide_eq_false (by omega)
    have z5 : decide ((j : Int) < 0) = false := decide_eq_false (by omega)
    have z6 : decide ((orderAt s.orders i).lines.length ≤ j) = false := decide_eq_false (by omega)
    have hix : i < x.orders.length := by rw [hxl]; exact hi
    have hjx : j < (x.order i).lines.length := by rw [hxn]; exact hj
    clear hT hcs hcx hxl hxn hka hsu hav
    obtain ⟨Ab, cb, As, cs, rfl, hP', hBn, hSz, hlb, hls⟩ := openPl hp
    obtain ⟨A0, c0, A1, c1, A2, c2, A3, c3, A4, c4, A5, c5, A6, c6, rfl, hV, hN, hO, hH, hM, hI, hU, hX, hl0, hl1, hl2, hl3, hl4, hl5, hl6⟩ := openOne hv
    go_enter Try.func10, Try.ntmps10
    go_wp2_with fail
    obtain ⟨W0, hW0, hb0, hsz0, hsz1, hsE, hK⟩ := boxesTwo w p s Ab cb As cs A0 c0 A1 c1 A2 c2 A3 c3 A4 c4 A5 c5 A6 c6
    rw [hW0]
    clear hW0
    obtain ⟨⟨y0, y1⟩, x0, x1, x2, x3, x4, x5, x6, hbz0, hbz1⟩ := hK.out W0 (Below.refl W0.heap.size W0)
    go_wp2_with fail
    clear y0 y1 x0 x1 x2 x3 x4 x5 x6 hbz0 hbz1
    refine (pkPickAt hT'.out _ _ _ (hP'.out _ hb0) (hV.out _ hb0)).mono ?_
    rintro e W1 ⟨V1, rfl, ho1, hb1⟩
    obtain ⟨go, co, _, hvo, -⟩ := ho1.orderAt hix
    rw [hxl'.out] at hvo
    obtain ⟨b0, b1, b2, b3, b4, b5, b6, b7, b8⟩ := V1
    obtain rfl : b1 = .slice (some ⟨go, 0, none⟩) s.orders.length co := hvo
    have hone2 := (ho1).one
    have hnb2 := newBox (W1)
    go_wp2_with (refine wpList_store_state rfl (.tmp 13) (.tmp 32) rfl rfl (World.heap (W1)).size nilSV (⟨b0, .slice (some ⟨go, 0, none⟩) s.orders.length co, b2, b3, b4, b5, b6, b7, b8⟩ : SV) hnb2 rfl rfl hone2 (fun w2 hbox2 hg2 => ?_); refine Hid.out ?_)
    unfold Hid
    have hbb2 := newBelow hg2
    have hbl2 := hbox2.lt
    clear hone2 hnb2 hg2
    have h02 := hb1.trans (hbb2.mono hb1.size)
    have hB2 := hb0.trans (h02.mono hb0.size)
    have hO2 := Lib.hid (ho1.below hbb2)
    have hv2 := Lib.hid (hO2.out.view0 hsm.out)
    have hbox2' := Lib.hid hbox2
    clear hbox2 ho1 hb1 hbb2
    obtain ⟨⟨y0, y1⟩, x0, x1, x2, x3, x4, x5, x6, hbz0, hbz1⟩ := hK.out w2 (h02)
    obtain ⟨Al, cl, ol, ll, d0, d1, hsl⟩ := (hO.out w2 hB2).order hi
    obtain ⟨_, hgol, z0, z1⟩ := hO2.out.orderCells hix rfl
    obtain ⟨gl, cv, curv, ev, hgl, hblk, f0, f1, f2, f3⟩ := hO2.out.lineAt hix hjx
    rw [ev, hxn'.out] at z1
    change w2.cell? _ = some (.slice _ (orderAt s.orders i).lines.length cv) at z1
    obtain ⟨p0, p1, p2, p3, p4, p5, p6⟩ := hbox2'.out.cells
    have t13 : W1.heap.size < w2.heap.size := hbl2
    have tgl := hblk.lt
    have hbl := Lib.hid (Blk.new w2 56 #[.int .i64 (x.line i j).good, .int .i64 (x.line i j).want, .int .i64 (x.line i j).got, .int .i64 (x.line i j).back])
    have h2l := (Below.refl w2.heap.size w2).alloc (Nat.le_refl _) (.cells #[.int .i64 (x.line i j).good, .int .i64 (x.line i j).want, .int .i64 (x.line i j).got, .int .i64 (x.line i j).back] 56)
    have p2' := Lib.hid ((hbox2'.out.below h2l hbl2).cells.2.2.1)
    clear hblk ev d0 z0
    go_wp2_with fail
    clear y0 y1 x0 x1 x2 x3 x4 x5 x6 hbz0 hbz1
    clear d1 z1 f0 f1 f2 f3 p0 p1 p2 p3 p4 p5 p6 z3 z4 z5 z6 t13 tgl hgol hsl ol ll
    generalize w2.heap.size = wl at hbl ⊢
    generalize w2.alloc (.cells #[.int .i64 (x.line i j).good, .int .i64 (x.line i j).want, .int .i64 (x.line i j).got, .int .i64 (x.line i j).back] 56) = W4 at hbl h2l p2' ⊢
    refine (hdKeptAt _ _ x.holds i j hsx.out.holds (hv2.out.grow h2l).holdsV).mono ?_
    rintro e W5 ⟨rfl, h5⟩
    have h25 := h2l.trans (h5.mono h2l.size)
    have p2 : W5.cell? ⟨W1.heap.size, 2, none⟩ = some b2 := (hbox2'.out.below h25 hbl2).cells.2.2.1
    clear p2'
    go_wp2_with fail
    clear p2
    refine (hdDropAt (drop_zero hsx.out.holds hka'.out) _ _ (hv2.out.grow h25).holdsV).mono ?_
    rintro e W6 ⟨u, rfl, hu, h6⟩
    have h26 := h25.trans (h6.mono h25.size)
    have hbl6 := Lib.hid (hbl.out.below (h5.trans (h6.mono h5.size)) hbl.out.lt)
    have l1 := hbl6.out.cell (j := 1) rfl
    have l2 := hbl6.out.cell (j := 2) rfl
    have l3 := hbl6.out.cell (j := 3) rfl
    have hl := (hsx.out.line hix hjx).2
    have hsu := hsu'.out
    obtain ⟨kk, hkk⟩ : ∃ kk, kept x.holds i j = kk := ⟨_, rfl⟩
    rw [hkk] at hsu
    rw [hkk]
    have hw1 : IntKind.i64.wrap ((x.line i j).got + (x.line i j).back) = (x.line i j).got + (x.line i j).back := IntWalk.i64_in _ (by omega)
    have hw2 : IntKind.i64.wrap ((x.line i j).got + (x.line i j).back + kk) = (x.line i j).got + (x.line i j).back + kk := IntWalk.i64_in _ (by omega)
    have t1 : ((x.line i j).got + (x.line i j).back + kk != (x.line i j).want) = false := by rw [hsu]; simp
    clear hkk hu hbl h5 h6 h2l h25 hsu hl
    go_wp2_with fail
    clear l1 l2 l3 hw1 hw2 t1
    have hb6 := (hsn.out.counts).2.1
    go_loopw [21, 22, 23] (fun q' _ _ wr => ∃ q : Nat, q ≤ p.bins.length ∧ q' = .int .i64 q ∧ Below W6.heap.size W6 wr) (fun q' _ _ _ => p.bins.length - (intOf q').toNat)
    case atStart => exact ⟨0, Nat.zero_le _, rfl, Below.refl _ _⟩
    case round =>
      obtain ⟨q, hq, rfl, h67⟩ := hrel
      have h27 := h26.trans (h67.mono h26.size)
      have h07 := h02.trans (h27.mono h02.size)
      have hB7 := hb0.trans (h07.mono hb0.size)
      obtain ⟨⟨y0, y1⟩, x0, x1, x2, x3, x4, x5, x6, hbz0, hbz1⟩ := hK.out wr (h07)
      have hbl7 := Lib.hid (hbl6.out.below h67 hbl6.out.lt)
      have l3 := hbl7.out.cell (j := 3) rfl
      obtain ⟨Al, cl, ol, ll, d0, d1, hsl⟩ := (hO.out wr hB7).order hi
      obtain ⟨ok2, l2, e0, e1, e2, e3⟩ := hsl.at_.line hj
      change wr.cell? _ = some (.int .i64 (s.line i j).back) at e3
      clear e0 e1 e2 d0
      by_cases hq1 : q < p.bins.length
      · have hq' : (q : Int) < (p.bins.length : Int) := by omega
        by_cases hbk : (s.line i j).back < (x.line i j).back
        · have hbd := decide_eq_true hbk
          have hA := Lib.hid (availE_ok (p := p) (s := x) (b := q) (g := (x.line i j).good) hcx'.out (isBin_iff.2 (by omega)) (isGood_iff.2 (hsx.out.line hix hjx).1))
          have hav := hav'.out hbk q hq1
          have hav1 := Lib.hid hav
          clear hbk hav
          go_wp2_with fail
          go_quiet (fail)
          clear y0 y1 x0 x1 x2 x3 x4 x5 x6 hbz0 hbz1
          clear d1 e3 hsl ol ll ok2 l2 l3 hbd
          have h6d := below_drewN h67 nq
          have h2d := below_drewN h27 nq
          have h0d := below_drewN h07 nq
          have hBd := below_drewN hB7 nq
          generalize wr.drewN nq = Wd at h6d h2d h0d hBd ⊢
          obtain ⟨⟨y0, y1⟩, x0, x1, x2, x3, x4, x5, x6, hbz0, hbz1⟩ := hK.out Wd (h0d)
          obtain ⟨p0, p1, p2, p3, p4, p5, p6⟩ := (hbox2'.out.below h2d hbl2).cells
          simp only at p0 p1 p2 p3 p4 p5 p6
          have l0 := (hbl6.out.below h6d hbl6.out.lt).cell (j := 0) rfl
          go_wp2_with fail
          clear y0 y1 x0 x1 x2 x3 x4 x5 x6 hbz0 hbz1
          clear p0 p1 p2 p3 p4 p5 p6 l0
          refine (sAvailAt _ _ _ (hP'.out _ hBd) (hv2.out.grow h2d) hA.out).mono ?_
          rintro e W8 ⟨rfl, h8⟩
          have h68 := h6d.trans (h8.mono h6d.size)
          by_cases hqc : q = c
          · have t2 : ((q : Int) != c) = false := by simp; omega
            clear hqc hA
            go_wp2_with fail
            go_roundw
            case rel => exact ⟨q + 1, by omega, by go_num, h68⟩
            case measure => simp [intOf]; omega
          · rw [hav1.out hqc]
            have t2 : ((q : Int) != c) = true := by simp; omega
            clear hqc hA
            go_wp2_with fail
            go_roundw
            case rel => exact ⟨q + 1, by omega, by go_num, h68⟩
            case measure => simp [intOf]; omega
        · have hbd := decide_eq_false hbk
          clear hbk
          go_wp2_with fail
          go_quiet (fail)
          have hBd := below_drewN hB7 nq
          generalize wr.drewN nq = Wd at hBd ⊢
          go_wp2_with fail
          refine (pickBegun _).mono ?_
          rintro e W9 ⟨rfl, h9⟩
          go_wp2_with fail
          go_ret
          exact ⟨rfl, hBd.trans (h9.mono hBd.size)⟩
      · obtain rfl : q = p.bins.length := by omega
        go_wp2_with fail
        go_quiet (fail)
        have hBd := below_drewN hB7 nq
        generalize wr.drewN nq = Wd at hBd ⊢
        go_wp2_with fail
        refine (pickBegun _).mono ?_
        rintro e W9 ⟨rfl, h9⟩
        go_wp2_with fail
        go_ret
        exact ⟨rfl, hBd.trans (h9.mono hBd.size)⟩
  · have hne : (c != 0) = true := by simpa using hc
    clear hc hT
    obtain ⟨Ab, cb, As, cs, rfl, hP', hBn, hSz, hlb, hls⟩ := openPl hp
    obtain ⟨A0, c0, A1, c1, A2, c2, A3, c3, A4, c4, A5, c5, A6, c6, rfl, hV, hN, hO, hH, hM, hI, hU, hX, hl0, hl1, hl2, hl3, hl4, hl5, hl6⟩ := openOne hv
    go_enter Try.func10, Try.ntmps10
    go_wp2_with fail
    obtain ⟨W0, hW0, hb0, hsz0, hsz1, hsE, hK⟩ := boxesTwo w p s Ab cb As cs A0 c0 A1 c1 A2 c2 A3 c3 A4 c4 A5 c5 A6 c6
    rw [hW0]
    clear hW0
    obtain ⟨⟨y0, y1⟩, x0, x1, x2, x3, x4, x5, x6, hbz0, hbz1⟩ := hK.out W0 (Below.refl W0.heap.size W0)
    go_wp2_with fail
    clear y0 y1 x0 x1 x2 x3 x4 x5 x6 hbz0 hbz1
    refine (pkPickAt hT'.out _ _ _ (hP'.out _ hb0) (hV.out _ hb0)).mono ?_
    rintro e W1 ⟨V1, rfl, ho1, hb1⟩
    have hone2 := (ho1).one
    have hnb2 := newBox (W1)
    go_wp2_with (refine wpList_store_state rfl (.tmp 13) (.tmp 32) rfl rfl (World.heap (W1)).size nilSV V1 hnb2 rfl rfl hone2 (fun w2 hbox2 hg2 => ?_); refine Hid.out ?_)
    unfold Hid
    have hbb2 := newBelow hg2
    have hbl2 := hbox2.lt
    clear hone2 hnb2 hg2
    have hB2 := hb0.trans ((hb1.trans (hbb2.mono hb1.size)).mono hb0.size)
    clear hbox2 ho1 hb1 hbb2
    go_wp2_with fail
    refine (pickBegun _).mono ?_
    rintro e W9 ⟨rfl, h9⟩
    go_wp2_with fail
    go_ret
    exact ⟨rfl, hB2.trans (h9.mono hB2.size)⟩
end Wh
