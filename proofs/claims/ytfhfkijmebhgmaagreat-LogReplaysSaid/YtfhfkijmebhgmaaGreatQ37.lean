/- Texts of the claim, joined: LogJ, LogT, AllocL, LogK, LogS. -/
import Derived.RegionTactic
import Derived.StillTailTactics
import Derived.Test.YtfhfkijmebhgmaaGreatQ20
import Derived.Test.YtfhfkijmebhgmaaGreatQ36
import Derived.Test.YtfhfkijmebhgmaaGreatQ10
import Derived.Test.YtfhfkijmebhgmaaGreatQ24
import Derived.Test.YtfhfkijmebhgmaaGreatQ23
import Derived.Test.YtfhfkijmebhgmaaGreatQ03
import Derived.Test.YtfhfkijmebhgmaaGreatQ06
import Derived.Test.YtfhfkijmebhgmaaGreatQ07
import Derived.Test.YtfhfkijmebhgmaaGreatQ08
import Derived.Test.YtfhfkijmebhgmaaGreatQ09
import Derived.Test.YtfhfkijmebhgmaaGreatQ26
import Derived.Test.YtfhfkijmebhgmaaGreatQ35
import Derived.Test.YtfhfkijmebhgmaaGreatQ28
import Derived.Test.YtfhfkijmebhgmaaGreatQ19
import Derived.Test.YtfhfkijmebhgmaaGreatQ21
namespace Wh
open Go Go.RowKit Go.Shelf Go.Proofs
attribute [local go_sem] run_indexAt_letter evL_tmp evL_const evL_func

theorem ActsV.kept {w w' : World} {base b : Nat} {v : Value} {l : List Deed} {t : TypeId} {cur : List Value} (h : ActsV w base v l) (hg : w.grownBy w' (some b)) (hb : Blk w b t cur) (h1 : 34 ≠ t) (h2 : 44 ≠ t) : ActsV w' base v l := by
  obtain ⟨ps, e1, e2, e3⟩ := h
  exact ⟨ps, e1, e2.kept hg (Own.notBox e2 hb h1), fun x hx => (e3 x hx).kept hg (Own.notBox (e3 x hx) hb h2)⟩
/-- An act's cells. -/
theorem ActsV.at {w : World} {base : Nat} {A : Option Addr} {n c : Nat} {l : List Deed} (h : ActsV w base (.slice A n c) l) {k : Nat} (hk : k < l.length) : ∃ g A2 c2, A = some ⟨g, 0, none⟩ ∧ g < w.heap.size ∧ w.cell? ⟨g, k * 6, none⟩ = some (.int .i64 l[k].kind) ∧ w.cell? ⟨g, k * 6 + 1, none⟩ = some (.int .i64 l[k].a) ∧
    w.cell? ⟨g, k * 6 + 2, none⟩ = some (.int .i64 l[k].b) ∧ w.cell? ⟨g, k * 6 + 3, none⟩ = some (.int .i64 l[k].c) ∧ w.cell? ⟨g, k * 6 + 4, none⟩ = some (.int .i64 l[k].n) ∧ w.cell? ⟨g, k * 6 + 5, none⟩ = some (.slice A2 l[k].lines.length c2) ∧ Own cLine 4 44 w base (.slice A2 l[k].lines.length c2) l[k].lines := by
  obtain ⟨ps, e1, e2, e3⟩ := h
  subst e1
  have hk' : k < ps.length := by simpa using hk
  obtain ⟨g, c', cur, h1, _, h3, h4⟩ := e2.at (fun _ => rfl) hk'
  injection h1 with h1 _ _
  have h5 := e3 _ (List.getElem_mem hk')
  obtain ⟨A2, c2, h6⟩ := h5.isSlice
  have e : (ps.map (·.1))[k] = ps[k].1 := by rw [List.getElem_map]
  rw [h6] at h5
  have h7 := h4 5 _ rfl
  rw [h6] at h7
  simp only [e]
  exact ⟨g, A2, c2, h1, h3.lt, h4 0 _ rfl, h4 1 _ rfl, h4 2 _ rfl, h4 3 _ rfl, h4 4 _ rfl, h7, h5⟩
theorem boxesRec (w : World) (p : Plan) (Ab : Option Addr) (cb : Nat) (As : Option Addr) (cs : Nat) : ∃ W0 : World, (w.alloc (.cells #[.slice Ab p.bins.length cb, .slice As p.sizes.length cs] 25)).alloc (.cells #[.slice none 0 0, .slice none 0 0, .slice none 0 0, .slice none 0 0, .slice none 0 0, .slice none 0 0, .slice none 0 0] 31) = W0 ∧ Below w.heap.size w W0 ∧
    Blk W0 w.heap.size 25 [.slice Ab p.bins.length cb, .slice As p.sizes.length cs] ∧ BoxAt W0 (w.heap.size + 1) nilSV ∧ W0.heap.size = w.heap.size + 1 + 1 := by
  have h1 : Blk (w.alloc (.cells #[.slice Ab p.bins.length cb, .slice As p.sizes.length cs] 25)) w.heap.size 25 [.slice Ab p.bins.length cb, .slice As p.sizes.length cs] := Blk.new _ _ _
  have h2 := Blk.new (w.alloc (.cells #[.slice Ab p.bins.length cb, .slice As p.sizes.length cs] 25)) 31 #[.slice none 0 0, .slice none 0 0, .slice none 0 0, .slice none 0 0, .slice none 0 0, .slice none 0 0, .slice none 0 0]
  rw [World.size_alloc] at h2
  exact ⟨_, rfl, ((Below.refl _ _).alloc (Nat.le_refl _) _).alloc (by simp) _, h1.alloc _, h2, by simp⟩
theorem doneOf_snoc {p : Plan} {l : List Deed} {s : State} {k : Nat} (hk : k < l.length) : doneOf p (l.take (k + 1)) s = if (act p (doneOf p (l.take k) s) l[k]).2 = 0 then (act p (doneOf p (l.take k) s) l[k]).1 else doneOf p (l.take k) s := by
  rw [take_snoc hk, doneOf_append]
  rfl
theorem linesOf_length : ∀ (m : Nat) (t : List Nat), (linesOf t m).length = m
  | 0, _ => rfl
  | m + 1, t => by rw [linesOf, List.length_cons, linesOf_length m]
theorem replay_lines : ∀ (n : Nat) (t : List Nat), ∀ x ∈ (replay n t).1, x.lines.length ≤ 3
  | 0, _, x, h => by cases h
  | n + 1, t, x, h => by
    by_cases h0 : actLen t = 0
    · rw [replay_stop (.inr h0)] at h
      cases h
    · rw [replay_step h0] at h
      rcases List.mem_cons.1 h with rfl | h
      · show (linesOf _ _).length ≤ 3
        rw [linesOf_length]
        exact (actLen_pos h0).2.2
      · exact replay_lines n _ x h
theorem replayE_lines {t : List Nat} {l : List Deed} {a b : Int} (h : replayE t = (l, a, b)) : ∀ x ∈ l, x.lines.length ≤ 3 := fun x hx => by
  unfold replayE at h
  split at h
  · injection h with h1 h2
    subst h1
    cases hx
  · injection h with h1 h2
    subst h1
    exact replay_lines 60 t x hx
theorem replayE_len {t : List Nat} {l : List Deed} {a b : Int} (h : replayE t = (l, a, b)) : l.length ≤ 60 := by
  unfold replayE at h
  split at h
  · injection h with h1 h2
    subst h1
    simp
  · injection h with h1 h2
    subst h1
    exact (replay_len 60 t).1
def RecPost (p : Plan) (t : List Nat) (w : World) (e : Ending) (w' : World) : Prop :=
  ∃ V, e = .returned (.tuple #[V.val, .int .i64 (recoverE p t).2.1, .int .i64 (recoverE p t).2.2]) ∧ OwnSt w' w.heap.size V (recoverE p t).1 ∧ Below w.heap.size w w'

set_option maxHeartbeats 8000000 in
set_option maxRecDepth 100000 in
theorem lgRecover (w : World) (v : Value) (p : Plan) (t : List Nat) (hp : PlanV w w.heap.size v p) (hb : ∀ n ∈ t, n < 256) : Calls Tryz.prog 33 #[v, .string (bstr t)] w (RecPost p t w) := by
  obtain ⟨Ab, cb, As, cs, rfl, hP', hBn, hSz, hlb, hls⟩ := openPl hp
  have hb' := Lib.hid hb
  clear hb hp
  go_enter Tryz.func33, Tryz.ntmps33
  go_wp2_with fail
  obtain ⟨W0, hW0, hb0, hpl, hbx, hsz0⟩ := boxesRec w p Ab cb As cs
  rw [hW0]
  clear hW0
  have y0 := hpl.cell (j := 0) rfl
  have y1 := hpl.cell (j := 1) rfl
  have lpl := hpl.lt
  go_wp2_with fail
  clear y0 y1
  refine (planCheck _ _ p (hP'.out _ hb0)).mono ?_
  rintro e W1 ⟨rfl, h1⟩
  have hpl1 := Lib.hid (hpl.below h1 hpl.lt)
  have hbx1 := Lib.hid (hbx.below h1 hbx.lt)
  have hB1 := hb0.trans (h1.mono hb0.size)
  have hs1 := h1.size
  clear hpl hbx hb0 h1
  by_cases hz : checkPlan p = 0
  · rw [hz]
    go_wp2_with fail
    refine (lgReplay W1 t hb'.out).mono ?_
    rintro e W2 ⟨vl, rfl, hA2, h2⟩
    have hpl2 := Lib.hid (hpl1.out.below h2 hpl1.out.lt)
    have hbx2 := Lib.hid (hbx1.out.below h2 hbx1.out.lt)
    have hB2 := hB1.trans (h2.mono hB1.size)
    obtain ⟨Al, cl, rfl⟩ := hA2.isSlice
    have hA2' := Lib.hid (hA2.from_ hB1.size)
    have hs2 := h2.size
    clear hpl1 hbx1 hB1 hA2 h2
    obtain ⟨l, ln, lc, hre⟩ : ∃ l ln lc, replayE t = (l, ln, lc) := ⟨_, _, _, rfl⟩
    rw [hre] at hA2' ⊢
    simp only at hA2' ⊢
    have hl3 := Lib.hid (replayE_lines hre)
    have hl60 := replayE_len hre
    by_cases hlc : lc = 0
    · subst hlc
      have hfin := Lib.hid (show recoverE p t = (doneOf p l (begin p), (l.length : Int), 0) by
        unfold recoverE
        rw [if_neg (fun h => h hz), hre]
        rfl)
      have hrt := Lib.hid (begin_right hz)
      have y0 := hpl2.out.cell (j := 0) rfl
      have y1 := hpl2.out.cell (j := 1) rfl
      have hz' := Lib.hid hz
      clear hre hz
      go_wp2_with fail
      clear y0 y1
      refine (sBegin _ _ p (hP'.out _ hB2)).mono ?_
      rintro e W3 ⟨V0, rfl, ho3, h3⟩
      rw [if_pos hz'.out] at ho3
      rw [hz'.out]
      have hone4 := (ho3).one
      have hnb4 := newBox (W3)
      go_wp2_with (refine wpList_store_state rfl (.tmp 11) (.tmp 36) rfl rfl (World.heap (W3)).size nilSV V0 hnb4 rfl rfl hone4 (fun w4 hbox4 hg4 => ?_); refine Hid.out ?_)
      unfold Hid
      have hbb4 := newBelow hg4
      have hbl4 := hbox4.lt
      clear hone4 hnb4 hg4
      have h24 := h3.trans (hbb4.mono h3.size)
      have hpl4 := Lib.hid (hpl2.out.below h24 hpl2.out.lt)
      have hbx4 := Lib.hid (hbx2.out.below h24 hbx2.out.lt)
      have hA4 := Lib.hid (hA2'.out.below h24)
      have hB4 := hB2.trans (h24.mono hB2.size)
      have ho4 := Lib.hid ((ho3.below hbb4).from_ hB2.size)
      have hbox4' := Lib.hid hbox4
      have hlx : w.heap.size + 1 < W3.heap.size := by have := h3.size; omega
      clear hpl2 hbx2 hA2' hB2 h24 h3 ho3 hbb4 hbox4 hbl4
      generalize W3.heap.size = bx at hbox4' hlx ⊢
      go_wp2_with fail
      go_loopw [40] (fun i wr => ∃ (k : Nat) (V : SV), k ≤ l.length ∧ i = .int .i64 k ∧ BoxAt wr bx V ∧ OwnSt wr w.heap.size V (doneOf p (l.take k) (begin p)) ∧ Blk wr w.heap.size 25 [.slice Ab p.bins.length cb, .slice As p.sizes.length cs] ∧ BoxAt wr (w.heap.size + 1) nilSV ∧ ActsV wr w.heap.size (.slice Al l.length cl) l ∧ Below w.heap.size w wr) (fun i _ => l.length - (RowKit.intOf i).toNat)
      case atStart => exact ⟨0, V0, Nat.zero_le _, rfl, hbox4'.out, ho4.out, hpl4.out, hbx4.out, hA4.out, hB4⟩
      case round =>
        clear hbox4' ho4 hpl4 hbx4 hA4 hB4
        obtain ⟨k, V, hk, rfl, hbox, ho, hpl, hbx, hA, hBr⟩ := hrel
        have hbox' := Lib.hid hbox
        have ho' := Lib.hid ho
        have hpl' := Lib.hid hpl
        have hbx' := Lib.hid hbx
        have hA' := Lib.hid hA
        have hchk : checkState p (doneOf p (l.take k) (begin p)) = 0 := doneOf_check hrt.out
        have hchk' := Lib.hid hchk
        have hsm := Lib.hid (check_small hchk)
        obtain ⟨sk, hsk⟩ : ∃ sk, doneOf p (l.take k) (begin p) = sk := ⟨_, rfl⟩
        rw [hsk] at hsm ho'
        have hsk' := Lib.hid hsk
        clear hbox ho hpl hbx hA hchk hsk
        have lbx := hbox'.out.lt
        have lpl := hpl'.out.lt
        obtain ⟨b0, b1, b2, b3, b4, b5, b6⟩ := hbox'.out.cells
        by_cases hlt : k < l.length
        · have hki : (k : Int) < (l.length : Int) := by omega
          have y0 := hpl'.out.cell (j := 0) rfl
          have y1 := hpl'.out.cell (j := 1) rfl
          obtain ⟨g, A2, c2, rfl, hgl, f0, f1, f2, f3, f4, f5, hOl⟩ := hA'.out.at hlt
          have hdn := doneOf_snoc (p := p) (s := begin p) hlt
          rw [hsk'.out] at hdn
          obtain ⟨x, hx⟩ : ∃ x, l[k] = x := ⟨_, rfl⟩
          rw [hx] at f0 f1 f2 f3 f4 f5 hOl hdn
          obtain ⟨s1, c1, hact⟩ : ∃ s1 c1, act p sk x = (s1, c1) := ⟨_, _, rfl⟩
          rw [hact] at hdn
          have hdn' := Lib.hid hdn
          have hact' := Lib.hid hact
          have hOl' := Lib.hid hOl
          have hx' := Lib.hid hx
          clear hx hdn hact hOl
          go_wp2_with fail
          clear f0 f1 f2 f3 f4 f5 y0 y1 b0 b1 b2 b3 b4 b5 b6
          have hal : Below wr.heap.size wr (wr.alloc (.cells #[.int .i64 x.kind, .int .i64 x.a, .int .i64 x.b, .int .i64 x.c, .int .i64 x.n, .slice A2 x.lines.length c2] 34)) := (Below.refl _ _).alloc (Nat.le_refl _) _
          generalize wr.alloc (.cells #[.int .i64 x.kind, .int .i64 x.a, .int .i64 x.b, .int .i64 x.c, .int .i64 x.n, .slice A2 x.lines.length c2] 34) = Wa at hal ⊢
          have hBa := hBr.trans (hal.mono hBr.size)
          have hx3 : x.lines.length ≤ 3 := by rw [← hx'.out]; exact hl3.out _ (List.getElem_mem hlt)
          refine (lgDo Wa _ _ _ p sk x (hP'.out _ hBa) ((ho'.out.below hal).view0 hsm.out) ⟨_, rfl, (hOl'.out.below hal).sl (by omega)⟩).mono ?_
          rintro e W5 ⟨V1, rfl, ho5, h5⟩
          rw [hact'.out] at ho5
          rw [hact'.out]
          simp only at ho5 ⊢
          have hone6 := (ho5).one
          have hnb6 := newBox (W5)
          go_wp2_with (refine wpList_store_state rfl (.tmp 15) (.tmp 49) rfl rfl (World.heap (W5)).size nilSV V1 hnb6 rfl rfl hone6 (fun w6 hbox6 hg6 => ?_); refine Hid.out ?_)
          unfold Hid
          have hbb6 := newBelow hg6
          have hbl6 := hbox6.lt
          clear hone6 hnb6 hg6
          have h56 := (hal.trans (h5.mono hal.size)).trans (hbb6.mono (Nat.le_trans hal.size h5.size))
          have hb6 := Lib.hid (hbox'.out.below h56 lbx)
          have ho6 := Lib.hid (ho'.out.below h56)
          have hpl6 := Lib.hid (hpl'.out.below h56 lpl)
          have hbx6 := Lib.hid (hbx'.out.below h56 hbx'.out.lt)
          have hA6 := Lib.hid (hA'.out.below h56)
          have hB6 := hBr.trans (h56.mono hBr.size)
          have hV6 := Lib.hid ((ho5.below hbb6).from_ hBa.size)
          have hbox6' := Lib.hid hbox6
          have hnb : bx < W5.heap.size := by have := h5.size; have := hal.size; omega
          clear hbox' ho' hpl' hbx' hA' hal hBa h5 h56 hbox6 ho5 hbb6 hOl' hact' hx' hx3
          by_cases hc1 : c1 = 0
          · subst hc1
            obtain ⟨q0, q1, q2, q3, q4, q5, q6⟩ := hbox6'.out.cells
            have hone := hV6.out.one
            go_wp2_with (refine wpList_store_state rfl (.tmp 11) (.tmp 53) rfl rfl bx V V1 hb6.out rfl rfl hone (fun w7 hbox7 hg7 => ?_); refine Hid.out ?_)
            unfold Hid
            have hV7 := Lib.hid (show OwnSt w7 w.heap.size V1 (doneOf p (l.take (k + 1)) (begin p)) by
              rw [hdn'.out, if_pos trivial]
              exact hV6.out.keptBy hg7 hb6.out.blk (by decide) (by decide) (by decide) (by decide) (by decide) (by decide))
            have hpl7 := Lib.hid (hpl6.out.grown hg7 (by intro he; injection he with he; omega))
            have hbx7 := Lib.hid (hbx6.out.grown hg7 (by intro he; injection he with he; omega))
            have hA7 := Lib.hid (hA6.out.kept hg7 hb6.out.blk (by decide) (by decide))
            have hB7 := hB6.grown hg7 hB6.size (fun j hj => by injection hj with hj; omega)
            have hbox7' := Lib.hid hbox7
            clear q0 q1 q2 q3 q4 q5 q6 hbox7 hg7 hb6 ho6 hpl6 hbx6 hA6 hB6 hV6 hbox6' hdn' hone
            go_wp2_with fail
            go_roundw
            case rel => exact ⟨k + 1, V1, by omega, by go_num, hbox7'.out, hV7.out, hpl7.out, hbx7.out, hA7.out, hB7⟩
            case measure => simp [RowKit.intOf]; omega
          · have hc1' : (c1 == 0) = false := by simpa using hc1
            have hV7 := Lib.hid (show OwnSt w6 w.heap.size V (doneOf p (l.take (k + 1)) (begin p)) by
              rw [hdn'.out, if_neg hc1]
              exact ho6.out)
            clear hc1 hdn' ho6 hV6 hbox6'
            go_wp2_with fail
            go_roundw
            case rel => exact ⟨k + 1, V, by omega, by go_num, hb6.out, hV7.out, hpl6.out, hbx6.out, hA6.out, hB6⟩
            case measure => simp [RowKit.intOf]; omega
        · obtain rfl : k = l.length := by omega
          rw [List.take_length] at hsk'
          have hone9 := OwnSt.one ho'.out
          go_wp2_with (refine wpList_store_state rfl (.tmp 4) (.tmp 55) rfl rfl (w.heap.size + 1) nilSV V hbx'.out rfl rfl hone9 (fun w9 hbox9 hg9 => ?_))
          have hO9 := OwnSt.keptBy ho'.out hg9 hbx'.out.blk (by decide) (by decide) (by decide) (by decide) (by decide) (by decide)
          obtain ⟨p0, p1, p2, p3, p4, p5, p6⟩ := BoxAt.cells hbox9
          have hfin9 : Below w.heap.size w w9 := Below.grown hBr hg9 (Below.size hBr) (fun k hk => by injection hk with hk; omega)
          clear b0 b1 b2 b3 b4 b5 b6
          go_wp2_with fail
          exact bodyPost_ret (v := .tuple #[V.val, .int .i64 l.length, .int .i64 0]) (by simp [results, Tryz.results33, go_sem, SV.val, p0, p1, p2, p3, p4, p5, p6]) rfl ⟨V, by rw [hfin.out], by rw [hfin.out, hsk'.out]; exact hO9, hfin9⟩
    · have hne : (lc != 0) = true := by simpa using hlc
      have hfin := Lib.hid (show recoverE p t = (dState, 0, lc) by
        unfold recoverE
        rw [if_neg (fun h => h hz), hre, if_pos hlc])
      clear hlc hre
      go_wp2_with (refine wpList_store_state rfl (.tmp 4) (.tmp 31) rfl rfl (w.heap.size + 1) nilSV nilSV hbx2.out rfl rfl rfl (fun w9 hbox9 hg9 => ?_))
      obtain ⟨p0, p1, p2, p3, p4, p5, p6⟩ := BoxAt.cells hbox9
      have hfin9 : Below w.heap.size w w9 := Below.grown hB2 hg9 (Below.size hB2) (fun k hk => by injection hk with hk; omega)
      go_wp2_with fail
      exact bodyPost_ret (v := .tuple #[nilSV.val, .int .i64 0, .int .i64 lc]) (by simp [results, Tryz.results33, go_sem, SV.val, p0, p1, p2, p3, p4, p5, p6]) rfl ⟨nilSV, by rw [hfin.out], by rw [hfin.out]; exact OwnSt.zero _ _, hfin9⟩
  · have hne : (checkPlan p != 0) = true := by simpa using hz
    have hfin := Lib.hid (show recoverE p t = (dState, 0, checkPlan p) by unfold recoverE; rw [if_pos hz])
    clear hz
    go_wp2_with (refine wpList_store_state rfl (.tmp 4) (.tmp 21) rfl rfl (w.heap.size + 1) nilSV nilSV hbx1.out rfl rfl rfl (fun w9 hbox9 hg9 => ?_))
    obtain ⟨p0, p1, p2, p3, p4, p5, p6⟩ := BoxAt.cells hbox9
    have hfin9 : Below w.heap.size w w9 := Below.grown hB1 hg9 (Below.size hB1) (fun k hk => by injection hk with hk; omega)
    go_wp2_with fail
    exact bodyPost_ret (v := .tuple #[nilSV.val, .int .i64 0, .int .i64 (checkPlan p)]) (by simp [results, Tryz.results33, go_sem, SV.val, p0, p1, p2, p3, p4, p5, p6]) rfl ⟨nilSV, by rw [hfin.out], by rw [hfin.out]; exact OwnSt.zero _ _, hfin9⟩
end Wh
namespace Wh
open Go Go.RowKit Go.Shelf Go.Proofs
attribute [local go_sem] run_indexAt_letter evL_tmp evL_const evL_func

theorem blk_second (w : World) (o : Obj) (t : TypeId) (cs : Array Value) : Blk ((w.alloc o).alloc (.cells cs t)) (w.heap.size + 1) t cs.toList := by
  have h := Blk.new (w.alloc o) t cs
  rw [World.size_alloc] at h
  exact h

set_option maxHeartbeats 8000000 in
set_option maxRecDepth 100000 in
theorem rSameActs (w : World) {b1 b2 : Nat} (v1 v2 : Value) (l : List Deed) (h1 : ActsV w b1 v1 l) (h2 : ActsV w b2 v2 l) (hl3 : ∀ x ∈ l, x.lines.length ≤ 3) (hl60 : l.length ≤ 60) :
    Calls Tryz.prog 32 #[v1, v2] w fun e w' => e = .returned (.bool true) ∧ Below w.heap.size w w' := by
  obtain ⟨A1, c1, rfl⟩ := h1.isSlice
  obtain ⟨B1, d1, rfl⟩ := h2.isSlice
  have h1' := Lib.hid h1
  have h2' := Lib.hid h2
  have hl3' := Lib.hid hl3
  have hql := neqLine
  have hg1 : Tryz.prog.eqGuardType Tryz.prog.depth 44 = false := by kernel_rfl
  have hql' := Lib.hid hql
  have hg1' := Lib.hid hg1
  clear h1 h2 hl3 hql hg1
  go_enter Tryz.func32, Tryz.ntmps32
  go_wp2_with fail
  go_loopw [5, 6, 7, 8] (fun i _ _ _ wr => ∃ k : Nat, k ≤ l.length ∧ i = .int .i64 k ∧ Below w.heap.size w wr) (fun i _ _ _ _ => l.length - (RowKit.intOf i).toNat)
  case atStart => exact ⟨0, Nat.zero_le _, rfl, Below.refl _ _⟩
  case round =>
    obtain ⟨k, hk, rfl, hBr⟩ := hrel
    by_cases hlt : k < l.length
    · have hki : (k : Int) < (l.length : Int) := by omega
      obtain ⟨g, A2, c2, rfl, lg, f0, f1, f2, f3, f4, f5, hs1⟩ := (h1'.out.below hBr).at hlt
      obtain ⟨g', B2, d2, rfl, lg', e0, e1, e2, e3, e4, e5, hs2⟩ := (h2'.out.below hBr).at hlt
      have hx3 := hl3'.out _ (List.getElem_mem hlt)
      obtain ⟨x, hx⟩ : ∃ x, l[k] = x := ⟨_, rfl⟩
      rw [hx] at f0 f1 f2 f3 f4 f5 e0 e1 e2 e3 e4 e5 hs1 hs2 hx3
      clear hx
      go_wp2_with fail
      go_region
      · generalize hWd : World.drew ((wr.alloc (.cells #[.int .i64 x.kind, .int .i64 x.a, .int .i64 x.b, .int .i64 x.c, .int .i64 x.n, .slice A2 x.lines.length c2] 34)).alloc (.cells #[.int .i64 x.kind, .int .i64 x.a, .int .i64 x.b, .int .i64 x.c, .int .i64 x.n, .slice B2 x.lines.length d2] 34)) = Wd
        have hbd : Below wr.heap.size wr Wd := by rw [← hWd]; exact (((Below.refl _ _).alloc (Nat.le_refl _) _).alloc (by simp) _).drew
        have hx : Blk Wd (wr.heap.size) 34 [.int .i64 x.kind, .int .i64 x.a, .int .i64 x.b, .int .i64 x.c, .int .i64 x.n, .slice A2 x.lines.length c2] := by
          rw [← hWd]
          exact ((Blk.new _ _ _).alloc _).drew
        have hy : Blk Wd (wr.heap.size + 1) 34 [.int .i64 x.kind, .int .i64 x.a, .int .i64 x.b, .int .i64 x.c, .int .i64 x.n, .slice B2 x.lines.length d2] := by
          rw [← hWd]
          exact (blk_second _ _ _ _).drew
        have hBd := hBr.trans (hbd.mono hBr.size)
        have hs1U := Lib.hid (fun W (hW : Below wr.heap.size wr W) => (hs1.below hW).sl (by omega))
        have hs2U := Lib.hid (fun W (hW : Below wr.heap.size wr W) => (hs2.below hW).sl (by omega))
        clear hWd hs1 hs2 f0 f1 f2 f3 f4 f5 e0 e1 e2 e3 e4 e5
        have hx0 := hx.cell (j := 0) rfl
        have hx1 := hx.cell (j := 1) rfl
        have hx2 := hx.cell (j := 2) rfl
        have hx3 := hx.cell (j := 3) rfl
        have hx4 := hx.cell (j := 4) rfl
        have hx5 := hx.cell (j := 5) rfl
        have hy0 := hy.cell (j := 0) rfl
        have hy1 := hy.cell (j := 1) rfl
        have hy2 := hy.cell (j := 2) rfl
        have hy3 := hy.cell (j := 3) rfl
        have hy4 := hy.cell (j := 4) rfl
        have hy5 := hy.cell (j := 5) rfl
        have hx' := Lib.hid hx
        have hy' := Lib.hid hy
        have hxl := hx.lt
        have hyl := hy.lt
        clear hx hy
        go_wp2_with fail
        clear hx0 hx1 hx2 hx3 hx4 hx5 hy0 hy1 hy2 hy3 hy4 hy5
        go_loopw [8] (fun i W => ∃ m : Nat, m ≤ x.lines.length ∧ i = .int .i64 m ∧ Below Wd.heap.size Wd W) (fun i _ => x.lines.length - (RowKit.intOf i).toNat)
        case atStart => exact ⟨0, Nat.zero_le _, rfl, Below.refl _ _⟩
        case round =>
          obtain ⟨m, hm, rfl, hbi⟩ := hrel
          have hx5 := (hx'.out.below hbi hxl).cell (j := 5) rfl
          have hy5 := (hy'.out.below hbi hyl).cell (j := 5) rfl
          have hxl2 := Nat.lt_of_lt_of_le hxl hbi.size
          have hyl2 := Nat.lt_of_lt_of_le hyl hbi.size
          by_cases hml : m < x.lines.length
          · have hmi : (m : Int) < (x.lines.length : Int) := by omega
            have hbi2 := hbd.trans (hbi.mono hbd.size)
            obtain ⟨o1, o2, o3, o4, o5, o6⟩ := (hs1U.out _ hbi2).at_.line hml
            obtain ⟨p1, p2, p3, p4, p5, p6⟩ := (hs2U.out _ hbi2).at_.line hml
            have hql := hql'.out
            have hg1 := hg1'.out
            go_wp2_with fail
            go_quiet (fail)
            go_wp2_with fail
            clear hql hg1
            go_roundw
            case rel => exact ⟨m + 1, by omega, by go_num, below_drewN hbi _⟩
            case measure => simp [RowKit.intOf]; omega
          · obtain rfl : m = x.lines.length := by omega
            go_wp2_with fail
            go_roundw
            case rel => exact ⟨k + 1, by omega, by go_num, hBd.trans (hbi.mono hBd.size)⟩
            case measure => simp [RowKit.intOf]; omega
      · generalize hWd : World.drew ((wr.alloc (.cells #[.int .i64 x.kind, .int .i64 x.a, .int .i64 x.b, .int .i64 x.c, .int .i64 x.n, .slice B2 x.lines.length d2] 34)).alloc (.cells #[.int .i64 x.kind, .int .i64 x.a, .int .i64 x.b, .int .i64 x.c, .int .i64 x.n, .slice A2 x.lines.length c2] 34)) = Wd
        have hbd : Below wr.heap.size wr Wd := by rw [← hWd]; exact (((Below.refl _ _).alloc (Nat.le_refl _) _).alloc (by simp) _).drew
        have hx : Blk Wd (wr.heap.size + 1) 34 [.int .i64 x.kind, .int .i64 x.a, .int .i64 x.b, .int .i64 x.c, .int .i64 x.n, .slice A2 x.lines.length c2] := by
          rw [← hWd]
          exact (blk_second _ _ _ _).drew
        have hy : Blk Wd (wr.heap.size) 34 [.int .i64 x.kind, .int .i64 x.a, .int .i64 x.b, .int .i64 x.c, .int .i64 x.n, .slice B2 x.lines.length d2] := by
          rw [← hWd]
          exact ((Blk.new _ _ _).alloc _).drew
        have hBd := hBr.trans (hbd.mono hBr.size)
        have hs1U := Lib.hid (fun W (hW : Below wr.heap.size wr W) => (hs1.below hW).sl (by omega))
        have hs2U := Lib.hid (fun W (hW : Below wr.heap.size wr W) => (hs2.below hW).sl (by omega))
        clear hWd hs1 hs2 f0 f1 f2 f3 f4 f5 e0 e1 e2 e3 e4 e5
        have hx0 := hx.cell (j := 0) rfl
        have hx1 := hx.cell (j := 1) rfl
        have hx2 := hx.cell (j := 2) rfl
        have hx3 := hx.cell (j := 3) rfl
        have hx4 := hx.cell (j := 4) rfl
        have hx5 := hx.cell (j := 5) rfl
        have hy0 := hy.cell (j := 0) rfl
        have hy1 := hy.cell (j := 1) rfl
        have hy2 := hy.cell (j := 2) rfl
        have hy3 := hy.cell (j := 3) rfl
        have hy4 := hy.cell (j := 4) rfl
        have hy5 := hy.cell (j := 5) rfl
        have hx' := Lib.hid hx
        have hy' := Lib.hid hy
        have hxl := hx.lt
        have hyl := hy.lt
        clear hx hy
        go_wp2_with fail
        clear hx0 hx1 hx2 hx3 hx4 hx5 hy0 hy1 hy2 hy3 hy4 hy5
        go_loopw [8] (fun i W => ∃ m : Nat, m ≤ x.lines.length ∧ i = .int .i64 m ∧ Below Wd.heap.size Wd W) (fun i _ => x.lines.length - (RowKit.intOf i).toNat)
        case atStart => exact ⟨0, Nat.zero_le _, rfl, Below.refl _ _⟩
        case round =>
          obtain ⟨m, hm, rfl, hbi⟩ := hrel
          have hx5 := (hx'.out.below hbi hxl).cell (j := 5) rfl
          have hy5 := (hy'.out.below hbi hyl).cell (j := 5) rfl
          have hxl2 := Nat.lt_of_lt_of_le hxl hbi.size
          have hyl2 := Nat.lt_of_lt_of_le hyl hbi.size
          by_cases hml : m < x.lines.length
          · have hmi : (m : Int) < (x.lines.length : Int) := by omega
            have hbi2 := hbd.trans (hbi.mono hbd.size)
            obtain ⟨o1, o2, o3, o4, o5, o6⟩ := (hs1U.out _ hbi2).at_.line hml
            obtain ⟨p1, p2, p3, p4, p5, p6⟩ := (hs2U.out _ hbi2).at_.line hml
            have hql := hql'.out
            have hg1 := hg1'.out
            go_wp2_with fail
            go_quiet (fail)
            go_wp2_with fail
            clear hql hg1
            go_roundw
            case rel => exact ⟨m + 1, by omega, by go_num, below_drewN hbi _⟩
            case measure => simp [RowKit.intOf]; omega
          · obtain rfl : m = x.lines.length := by omega
            go_wp2_with fail
            go_roundw
            case rel => exact ⟨k + 1, by omega, by go_num, hBd.trans (hbi.mono hBd.size)⟩
            case measure => simp [RowKit.intOf]; omega
    · obtain rfl : k = l.length := by omega
      go_wp2_with fail
      go_ret
      exact ⟨rfl, hBr⟩
end Wh
namespace Wh
open Go Go.RowKit Go.Shelf Go.Proofs
attribute [local go_sem] run_indexAt_letter evL_tmp evL_const evL_func

theorem At.tail {w : World} {B g o : Nat} {xs ys : List Value} (h : At w B (some ⟨g, o, none⟩) (xs ++ ys)) : At w B (some ⟨g, o + xs.length, none⟩) ys := by
  intro hn
  obtain ⟨h1, h2, h3⟩ := h (by simp [hn])
  refine ⟨⟨g, _, rfl⟩, h2, fun j v hj => ?_⟩
  have := h3 (xs.length + j) v (by rw [List.getElem?_append_right (by omega), Nat.add_sub_cancel_left]; exact hj)
  rw [← Nat.add_assoc] at this
  exact this
end Wh
namespace Wh
open Go Go.RowKit Go.Shelf Go.Proofs
attribute [local go_sem] run_indexAt_letter evL_tmp evL_const evL_func

theorem bstr_append (a b : List Nat) : bstr a ++ bstr b = bstr (a ++ b) := by
  unfold bstr
  rw [List.map_append]
  apply ByteArray.ext
  simp
def lgB1 : List Nat := [1, 1, 0, 0, 5, 0]
def lgB2 : List Nat := [2, 0, 0, 0, 0, 1, 1, 9, 0, 0]
theorem begW1 : writeE ⟨1, 1, 0, 0, 5, []⟩ = (lgB1, 0) := by decide +kernel
theorem begW2 : writeE ⟨2, 0, 0, 0, 0, [⟨1, 9, 0, 0⟩]⟩ = (lgB2, 0) := by decide +kernel
theorem begW3 : writeE ⟨0, 0, 0, 0, 256, []⟩ = ([], 3) := by decide +kernel
theorem begR1 : (replayE (lgB1 ++ lgB2 ++ [1])).1.length = 2 := by decide +kernel
theorem begR2 : (replayE (lgB1 ++ lgB2 ++ [1])).2 = (16, 0) := by decide +kernel
theorem begLt : ∀ n ∈ lgB1 ++ lgB2 ++ [1], n < 256 := by decide +kernel
theorem begLt2 : ∀ n ∈ lgB1 ++ lgB2, n < 256 := by decide +kernel
def lgS : State := (recoverE yardP (lgB1 ++ lgB2)).1
theorem begRec : recoverE yardP (lgB1 ++ lgB2) = (lgS, 2, 0) := Prod.ext rfl (by decide +kernel)
theorem lgS_on : lgS.on.length = 3 := by decide +kernel
theorem lgS_row : (rowAt lgS.on 1).length = 2 := by decide +kernel
theorem lgS_cell : cell lgS.on 1 0 = 5 := by decide +kernel
theorem lgS_orders : lgS.orders.length = 1 := by decide +kernel
theorem begDo : act yardP busyS ⟨0, 0, 0, 0, 0, []⟩ = (dState, 8) := by decide +kernel

set_option maxHeartbeats 4000000 in
set_option maxRecDepth 100000 in
theorem logBegun (w : World) : Calls Tryz.prog 15 #[] w fun e w' => e = .returned (.bool true) ∧ Below w.heap.size w w' := by
  go_enter Tryz.func15, Tryz.ntmps15
  go_wp2_with fail
  refine (lgWrite w _ ⟨1, 1, 0, 0, 5, []⟩ ⟨_, rfl, Sl.nil⟩ (by simp)).mono ?_
  rintro e W1 ⟨rfl, h1⟩
  rw [begW1]
  go_wp2_with fail
  have h2a : Below W1.heap.size W1 (W1.alloc (.cells #[.int .i64 1, .int .i64 9, .int .i64 0, .int .i64 0] 44)) := (Below.refl _ _).alloc (Nat.le_refl _) _
  have hl2 : Sl cLine (W1.alloc (.cells #[.int .i64 1, .int .i64 9, .int .i64 0, .int .i64 0] 44)) (W1.alloc (.cells #[.int .i64 1, .int .i64 9, .int .i64 0, .int .i64 0] 44)).heap.size (.slice (some ⟨W1.heap.size, 0, none⟩) 1 1) [⟨1, 9, 0, 0⟩] :=
    (Own.lit (enc := cLine) (size := 4) (base := W1.heap.size) W1 44 #[.int .i64 1, .int .i64 9, .int .i64 0, .int .i64 0] [(⟨1, 9, 0, 0⟩ : Line)] (Nat.le_refl _) (by simp) (fun _ => rfl) rfl).sl (by simp)
  generalize W1.alloc (.cells #[.int .i64 1, .int .i64 9, .int .i64 0, .int .i64 0] 44) = Wa at h2a hl2 ⊢
  refine (lgWrite Wa _ ⟨2, 0, 0, 0, 0, [⟨1, 9, 0, 0⟩]⟩ ⟨_, rfl, hl2⟩ (by simp)).mono ?_
  rintro e W2 ⟨rfl, h2⟩
  rw [begW2]
  have hB2 := h1.trans ((h2a.trans (h2.mono h2a.size)).mono h1.size)
  clear h1 h2a h2 hl2
  have e1 : bstr lgB1 ++ bstr lgB2 = bstr (lgB1 ++ lgB2) := bstr_append _ _
  have e2 : bstr (lgB1 ++ lgB2) ++ (ByteArray.mk #[1]) = bstr (lgB1 ++ lgB2 ++ [1]) := by rw [← bstr_append]; rfl
  go_wp2_with fail
  refine (lgReplay W2 (lgB1 ++ lgB2 ++ [1]) begLt).mono ?_
  rintro e W3 ⟨vl, rfl, hA3, h3⟩
  obtain ⟨Al, cl, rfl⟩ := hA3.isSlice
  rw [begR1, begR2]
  have hB3 := hB2.trans (h3.mono hB2.size)
  clear hA3 h3 hB2
  go_wp2_with fail
  refine (lYard _).mono ?_
  rintro e W4 ⟨u4, rfl, hu4, h4⟩
  have hB4 := hB3.trans (h4.mono hB3.size)
  clear h4 hB3
  go_wp2_with fail
  refine (lgRecover W4 _ yardP (lgB1 ++ lgB2) hu4 begLt2).mono ?_
  rintro e W5 ⟨V5, rfl, ho5, h5⟩
  rw [begRec] at ho5 ⊢
  simp only at ho5 ⊢
  have hone6 := (ho5).one
  have hnb6 := newBox (W5)
  go_wp2_with (refine wpList_store_state rfl (.tmp 8) (.tmp 42) rfl rfl (World.heap (W5)).size nilSV V5 hnb6 rfl rfl hone6 (fun w6 hbox6 hg6 => ?_); refine Hid.out ?_)
  unfold Hid
  have hbb6 := newBelow hg6
  have hbl6 := hbox6.lt
  clear hone6 hnb6 hg6
  have hB6 := hB4.trans ((h5.trans (hbb6.mono h5.size)).mono hB4.size)
  have ho6 := Lib.hid (ho5.below hbb6)
  have hbox6' := Lib.hid hbox6
  clear ho5 hbb6 hbox6 h5 hB4 hu4
  generalize W5.heap.size = b8 at hbox6' hbl6 ⊢
  go_wp2_with fail
  refine (lgWrite w6 _ ⟨0, 0, 0, 0, 256, []⟩ ⟨_, rfl, Sl.nil⟩ (by simp)).mono ?_
  rintro e W7 ⟨rfl, h7⟩
  rw [begW3]
  have hB7 := hB6.trans (h7.mono hB6.size)
  have ho7 := Lib.hid (ho6.out.below h7)
  have hbox7 := Lib.hid (hbox6'.out.below h7 hbl6)
  clear hB6 ho6 hbox6' h7 hbl6
  go_wp2_with fail
  refine (lYard _).mono ?_
  rintro e W8 ⟨u8, rfl, hu8, h8⟩
  go_wp2_with fail
  refine (lBusy _).mono ?_
  rintro e W9 ⟨V9, rfl, ho9, h9⟩
  go_wp2_with fail
  refine (lgDo W9 _ _ _ yardP busyS ⟨0, 0, 0, 0, 0, []⟩ (hu8.grow h9) (ho9.view0 (by decide)) ⟨_, rfl, Sl.nil⟩).mono ?_
  rintro e W10 ⟨V10, rfl, ho10, h10⟩
  rw [begDo] at ho10 ⊢
  simp only at ho10 ⊢
  have hone11 := (ho10).one
  have hnb11 := newBox (W10)
  go_wp2_with (refine wpList_store_state rfl (.tmp 13) (.tmp 55) rfl rfl (World.heap (W10)).size nilSV V10 hnb11 rfl rfl hone11 (fun w11 hbox11 hg11 => ?_); refine Hid.out ?_)
  unfold Hid
  have hbb11 := newBelow hg11
  have hbl11 := hbox11.lt
  clear hone11 hnb11 hg11
  have h711 := h8.trans ((h9.trans ((h10.trans (hbb11.mono h10.size)).mono h9.size)).mono h8.size)
  have hB := hB7.trans (h711.mono hB7.size)
  have hA := ho7.out.below h711
  have hbA := hbox7.out.below h711 hbox7.out.lt
  clear ho7 hbox7 h711 hB7 h8 h9 h10 hbb11 hbox11 hbl11 ho10 ho9 hu8
  obtain ⟨pA0, pA1, _, _, _, _, _⟩ := hbA.cells
  obtain ⟨gon, con, cur0, gr, cr, cur, eon, _, _, r0, _, _, _, rc⟩ := hA.onAt (b := 1) (g := 0) (by rw [lgS_on]; decide) (by rw [lgS_row]; decide)
  rw [lgS_on] at eon
  rw [lgS_row] at r0
  rw [lgS_cell] at rc
  rw [eon] at pA0
  obtain ⟨Ao, co, vO⟩ := hA.ordersSlice
  rw [lgS_orders] at vO
  rw [vO] at pA1
  have q1 : (bstr lgB1).toList = (ByteArray.mk #[1, 1, 0, 0, 5, 0]).toList := by rw [ByteArray.toList_eq, ByteArray.toList_eq]; rfl
  have q2 : (bstr lgB2).size = 10 := by rw [bstr_size]; rfl
  clear hA hbA eon vO e1 e2
  go_wp2_with fail
  go_ret
  exact ⟨rfl, hB⟩
end Wh
namespace Wh
open Go Go.RowKit Go.Shelf Go.Proofs
attribute [local go_sem] run_indexAt_letter evL_tmp evL_const evL_func

set_option maxHeartbeats 8000000 in
set_option maxRecDepth 100000 in
theorem logReplaysWalk (w : World) (vd : Value) (x : Deed) (t : List Nat) (hd : DeedV w w.heap.size vd x) (hb : ∀ n ∈ t, n < 256) (hlb : x.lines.length ≤ 4398046511104) :
    Calls Tryz.prog 9 #[vd, .string (bstr t)] w fun e w' => e = .returned (.bool true) ∧ Below w.heap.size w w' := by
  obtain ⟨Al, cl, rfl, hDV, hLn, hll⟩ := openDeed hd
  have hb' := Lib.hid hb
  obtain ⟨b, f, hwr⟩ : ∃ b f, writeE x = (b, f) := ⟨_, _, rfl⟩
  obtain ⟨l, k, g, hrp⟩ : ∃ l k g, replayE t = (l, k, g) := ⟨_, _, _, rfl⟩
  have hwr' := Lib.hid hwr
  have hrp' := Lib.hid hrp
  have hl60 := replayE_len hrp
  have hl3 := Lib.hid (replayE_lines hrp)
  have hx0 : Blk (w.alloc (.cells #[.int .i64 x.kind, .int .i64 x.a, .int .i64 x.b, .int .i64 x.c, .int .i64 x.n, .slice Al x.lines.length cl] 34)) w.heap.size 34 [.int .i64 x.kind, .int .i64 x.a, .int .i64 x.b, .int .i64 x.c, .int .i64 x.n, .slice Al x.lines.length cl] := Blk.new _ _ _
  have hx0' := Lib.hid hx0
  have hb0 : Below w.heap.size w (w.alloc (.cells #[.int .i64 x.kind, .int .i64 x.a, .int .i64 x.b, .int .i64 x.c, .int .i64 x.n, .slice Al x.lines.length cl] 34)) := (Below.refl _ _).alloc (Nat.le_refl _) _
  clear hd hb hwr hrp hx0
  go_enter Tryz.func9, Tryz.ntmps9
  go_wp2_with fail
  generalize w.alloc (.cells #[.int .i64 x.kind, .int .i64 x.a, .int .i64 x.b, .int .i64 x.c, .int .i64 x.n, .slice Al x.lines.length cl] 34) = W0 at hx0' hb0 ⊢
  refine (lgWrite _ _ x (hDV.out _ hb0) hlb).mono ?_
  rintro e W1 ⟨rfl, h1⟩
  rw [hwr'.out]
  simp only
  have hx1 := Lib.hid (hx0'.out.below h1 hx0'.out.lt)
  have hB1 := hb0.trans (h1.mono hb0.size)
  clear hx0' hb0 h1
  have d0 := hx1.out.cell (j := 0) rfl
  have d1 := hx1.out.cell (j := 1) rfl
  have d2 := hx1.out.cell (j := 2) rfl
  have d3 := hx1.out.cell (j := 3) rfl
  have d4 := hx1.out.cell (j := 4) rfl
  have d5 := hx1.out.cell (j := 5) rfl
  have lx := hx1.out.lt
  go_wp2_with fail
  clear d0 d1 d2 d3 d4 d5 lx hx1
  refine (rActBytes _ _ x (hDV.out _ hB1) hlb).mono ?_
  rintro e W2 ⟨rfl, h2⟩
  rw [hwr'.out]
  simp only
  have hB2 := hB1.trans (h2.mono hB1.size)
  clear hB1 h2
  go_wp2_with fail
  refine (lgReplay _ t hb'.out).mono ?_
  rintro e W3 ⟨v3, rfl, hA3, h3⟩
  rw [hrp'.out] at hA3 ⊢
  simp only at hA3 ⊢
  have hB3 := hB2.trans (h3.mono hB2.size)
  clear hB2 h3
  go_wp2_with fail
  refine (rReplayOf _ t hb'.out).mono ?_
  rintro e W4 ⟨v4, rfl, hA4, h4⟩
  rw [hrp'.out] at hA4 ⊢
  simp only at hA4 ⊢
  have hB4 := hB3.trans (h4.mono hB3.size)
  have hA3' := Lib.hid (hA3.below h4)
  have hA4' := Lib.hid hA4
  clear hB3 h4 hA3 hA4
  go_wp2_with fail
  refine (logBegun _).mono ?_
  rintro e W5 ⟨rfl, h5⟩
  have hB5 := hB4.trans (h5.mono hB4.size)
  have hA5 := hA3'.out.below h5
  have hA6 := hA4'.out.below h5
  go_wp2_with fail
  refine (rSameActs _ _ _ l hA5 hA6 hl3.out hl60).mono ?_
  rintro e W6 ⟨rfl, h6⟩
  go_wp2_with fail
  go_ret
  exact ⟨rfl, hB5.trans (h6.mono hB5.size)⟩
end Wh
