/- Texts of the claim, joined: LogE, LogF, LogG. -/
import Derived.Deep.RegionLaw
import Derived.Laws.IdiomStrings
import Derived.Laws.Strings2
import Derived.Laws.PanicsMore
import Derived.Defers
import Derived.Recover
import Derived.Test.YtfhfkijmebhgmaaGreatQ34
import Derived.Test.YtfhfkijmebhgmaaGreatQ33
import Derived.Test.YtfhfkijmebhgmaaGreatQ03
namespace Wh
open Go Go.RowKit Go.Shelf Go.Proofs
attribute [local go_sem] run_indexAt_letter evL_tmp evL_const evL_func

/-- Bytes as a text. -/
def bstr (l : List Nat) : ByteArray := ⟨(l.map UInt8.ofNat).toArray⟩
theorem byteOf_lt (n : Int) : byteOf n < 256 := by
  unfold byteOf
  rw [IntKind.wrap_u8]
  omega
def lineBts (x : Line) : List Nat := [byteOf x.good, byteOf x.want, byteOf x.got, byteOf x.back]
theorem lineBts_eq {x : Line} (h : lineByte x = true) : lineBts x = lineBytes x := by
  unfold lineByte at h
  simp only [Bool.and_eq_true] at h
  unfold lineBts lineBytes
  rw [byteOf_id h.1.1.1, byteOf_id h.1.1.2, byteOf_id h.1.2, byteOf_id h.2]
theorem linesBts_eq {l : List Line} (h : l.all lineByte = true) : l.flatMap lineBts = l.flatMap lineBytes := by
  induction l with
  | nil => rfl
  | cons y r ih =>
    rw [List.all_cons, Bool.and_eq_true] at h
    rw [List.flatMap_cons, List.flatMap_cons, lineBts_eq h.1, ih h.2]
theorem lineBts_len (l : List Line) : (l.flatMap lineBts).length = 4 * l.length := by
  induction l with
  | nil => rfl
  | cons y r ih => rw [List.flatMap_cons, List.length_append, ih, List.length_cons]; simp [lineBts]; omega
theorem lineBts_lt (l : List Line) : ∀ n ∈ l.flatMap lineBts, n < 256 := fun n hn => by
  obtain ⟨y, _, hy⟩ := List.mem_flatMap.1 hn
  simp only [lineBts, List.mem_cons, List.not_mem_nil, or_false] at hy
  rcases hy with rfl | rfl | rfl | rfl <;> exact byteOf_lt _
/-- What stands written when k lines are. -/
def wrote (x : Deed) (k : Nat) : List Nat := [byteOf x.kind, byteOf x.a, byteOf x.b, byteOf x.c, byteOf x.n, byteOf x.lines.length] ++ (x.lines.take k).flatMap lineBts
def wbad (x : Deed) (k : Nat) : Bool := !([x.kind, x.a, x.b, x.c, x.n].all isByte) || !((x.lines.take k).all lineByte)
theorem wrote_len (x : Deed) (k : Nat) : (wrote x k).length ≤ 6 + 4 * k := by
  unfold wrote
  rw [List.length_append, lineBts_len, List.length_take]
  simp only [List.length_cons, List.length_nil]
  omega
theorem wrote_lt (x : Deed) (k : Nat) : ∀ n ∈ wrote x k, n < 256 := fun n hn => by
  rcases List.mem_append.1 hn with h | h
  · simp only [List.mem_cons, List.not_mem_nil, or_false] at h
    rcases h with rfl | rfl | rfl | rfl | rfl | rfl <;> exact byteOf_lt _
  · exact lineBts_lt _ n h
theorem wrote_succ {x : Deed} {k : Nat} (h : k < x.lines.length) : wrote x (k + 1) = wrote x k ++ [(lineAt x.lines k).good, (lineAt x.lines k).want, (lineAt x.lines k).got, (lineAt x.lines k).back].map byteOf := by
  have e : lineAt x.lines k = x.lines[k] := by simp [lineAt, h]
  unfold wrote
  rw [e, List.append_assoc]
  congr 1
  rw [List.take_add_one, List.getElem?_eq_getElem h, List.flatMap_append]
  rfl
theorem wbad_succ {x : Deed} {k : Nat} (h : k < x.lines.length) : wbad x (k + 1) = (wbad x k || !([(lineAt x.lines k).good, (lineAt x.lines k).want, (lineAt x.lines k).got, (lineAt x.lines k).back].all isByte)) := by
  have e : lineAt x.lines k = x.lines[k] := by simp [lineAt, h]
  unfold wbad
  rw [e, List.take_add_one, List.getElem?_eq_getElem h, List.all_append, Bool.not_and]
  have e2 : ((some x.lines[k]).toList.all lineByte) = ([x.lines[k].good, x.lines[k].want, x.lines[k].got, x.lines[k].back].all isByte) := by
    simp only [Option.toList_some, List.all_cons, List.all_nil, Bool.and_true, lineByte, Bool.and_assoc]
  rw [e2, Bool.or_assoc]
theorem wbad_all (x : Deed) : wbad x x.lines.length = !allByte x := by
  unfold wbad allByte
  rw [List.take_length]
  simp only [List.all_cons, List.all_nil, Bool.and_true, Bool.not_and, Bool.or_assoc]
theorem wrote_all {x : Deed} (h : allByte x = true) (hn : x.lines.length ≤ 3) : wrote x x.lines.length = actBytes x := by
  have h' := h
  unfold allByte at h'
  simp only [Bool.and_eq_true] at h'
  obtain ⟨⟨⟨⟨⟨h1, h2⟩, h3⟩, h4⟩, h5⟩, h6⟩ := h'
  unfold wrote actBytes
  have hl : isByte (x.lines.length : Int) = true := isByte_iff.2 (by omega)
  rw [List.take_length, linesBts_eq h6, byteOf_id h1, byteOf_id h2, byteOf_id h3, byteOf_id h4, byteOf_id h5, byteOf_id hl]
  rfl
set_option maxRecDepth 100000 in
/-- 'string(b)' of bytes that a call owns. -/
theorem conv_bytes {w : World} {base : Nat} {A : Option Addr} {n c : Nat} {bs : List Nat} (h : Own cByte 1 5 w base (.slice A n c) bs) (hlt : ∀ x ∈ bs, x < 256) (hpos : 0 < bs.length) :
    (convert 115 9 (.slice A n c)).run Tryz.prog w = .ok (.string (bstr bs)) w := by
  obtain ⟨g, c', hv, _, _⟩ := h.some_ hpos
  injection hv with e1 e2 e3
  subst e1 e2 e3
  have hc := fun j (hj : j < bs.length) => h.at (fun _ => rfl) (i := j) hj
  have key := run_convert_bytes_back (P := Tryz.prog) w 115 9 5 ⟨g, 0, none⟩ c (bs.map UInt8.ofNat) Tryz.underlying115 (by kernel_rfl) (by kernel_rfl) (fun j hj => by
    have hj' : j < bs.length := by simpa using hj
    obtain ⟨g', c2, cur, e1, _, _, h4⟩ := hc j hj'
    injection e1 with e1
    injection e1 with e1
    injection e1 with e1
    subst e1
    have h5 := h4 0 _ rfl
    rw [Addr.add_lit]
    have e : ((bs.map UInt8.ofNat)[j].toNat : Int) = (bs[j] : Int) := by
      rw [List.getElem_map]
      have := hlt _ (List.getElem_mem hj')
      simp
      omega
    rw [e]
    simpa using h5)
  rw [List.length_map] at key
  exact key

theorem run_app_byte (w : World) (base : Nat) (v : Value) (l : List Nat) (n : Nat) (hown : Own cByte 1 5 w base v l) (g c : Nat) (hc : w.cell? ⟨g, 0, none⟩ = some (.int .u8 n)) (hn : l.length ≤ 1000) (hbase : base ≤ w.heap.size) :
    ∃ v' w', (Builtin.append_ #[115, 115] 115 #[v, .slice (some ⟨g, 0, none⟩) 1 c]).run Tryz.prog w = .ok v' w' ∧ Own cByte 1 5 w' base v' (l ++ [n]) ∧ w.grownBy w' v.ownBlock ∧ Below base w w' := by
  obtain ⟨ii, hi, hz, hsize, hbytes⟩ := infoByte
  obtain ⟨v', w3, hr, hown3, hg3, _, _⟩ := run_append_own_at (P := Tryz.prog) w base 115 115 5 ii _ 1 1 Tryz.underlying115 hi hz hsize hbytes rfl (by decide) v _ _ hown ⟨g, 0, none⟩ 1 c (cByte n) rfl
    (fun j u hj => by
      rw [Addr.add_lit]
      match j, hj with
      | 0, hj => exact hc.trans hj
      | j + 1, hj => simp [cByte] at hj) (one_byte n) (by unfold maxLen; omega) (by omega) hbase
  refine ⟨v', w3, hr, ?_, hg3, (Below.refl _ _).grown hg3 hbase fun k hk => (World.ownsRow.lt hown k hk).1⟩
  unfold Own
  rw [List.length_append, List.flatMap_append]
  simpa using hown3

theorem boxesWrite (w : World) (x : Deed) (Al : Option Addr) (cl : Nat) : ∃ W : World, ((w.alloc (.cells #[.int .i64 x.kind, .int .i64 x.a, .int .i64 x.b, .int .i64 x.c, .int .i64 x.n, .slice Al x.lines.length cl] 34)).alloc (.cells #[.slice none 0 0, .bool false] 117)).alloc (.cells #[.int .i64 x.kind, .int .i64 x.a, .int .i64 x.b, .int .i64 x.c, .int .i64 x.n] 3) = W ∧
    Below w.heap.size w W ∧ PenV W w.heap.size (w.heap.size + 1) (.slice none 0 0) false [] ∧ Blk W w.heap.size 34 [.int .i64 x.kind, .int .i64 x.a, .int .i64 x.b, .int .i64 x.c, .int .i64 x.n, .slice Al x.lines.length cl] ∧ Blk W (w.heap.size + 1 + 1) 3 ([x.kind, x.a, x.b, x.c, x.n].map (Value.int .i64)) := by
  have h1 : Blk (w.alloc (.cells #[.int .i64 x.kind, .int .i64 x.a, .int .i64 x.b, .int .i64 x.c, .int .i64 x.n, .slice Al x.lines.length cl] 34)) w.heap.size 34 [.int .i64 x.kind, .int .i64 x.a, .int .i64 x.b, .int .i64 x.c, .int .i64 x.n, .slice Al x.lines.length cl] := Blk.new _ _ _
  have h2 := Blk.new (w.alloc (.cells #[.int .i64 x.kind, .int .i64 x.a, .int .i64 x.b, .int .i64 x.c, .int .i64 x.n, .slice Al x.lines.length cl] 34)) 117 #[.slice none 0 0, .bool false]
  rw [World.size_alloc] at h2
  have h3 := Blk.new ((w.alloc (.cells #[.int .i64 x.kind, .int .i64 x.a, .int .i64 x.b, .int .i64 x.c, .int .i64 x.n, .slice Al x.lines.length cl] 34)).alloc (.cells #[.slice none 0 0, .bool false] 117)) 3 #[.int .i64 x.kind, .int .i64 x.a, .int .i64 x.b, .int .i64 x.c, .int .i64 x.n]
  rw [World.size_alloc, World.size_alloc] at h3
  exact ⟨_, rfl, (((Below.refl _ _).alloc (Nat.le_refl _) _).alloc (by simp) _).alloc (by simp; omega) _, ⟨h2.alloc _, Own.nil⟩, (h1.alloc _).alloc _, h3⟩

set_option maxHeartbeats 8000000 in
set_option maxRecDepth 100000 in
theorem lgWrite (w : World) (v : Value) (x : Deed) (hv : DeedV w w.heap.size v x) (hlb : x.lines.length ≤ 4398046511104) :
    Calls Tryz.prog 28 #[v] w fun e w' => e = .returned (.tuple #[.string (bstr (writeE x).1), .int .i64 (writeE x).2]) ∧ Below w.heap.size w w' := by
  obtain ⟨Al, cl, rfl, hX, hL, hll⟩ := openDeed hv
  clear hv hX
  go_enter Tryz.func28, Tryz.ntmps28
  go_wp2_with fail
  obtain ⟨W, hW, hbw, hP0, hbx0, hbi⟩ := boxesWrite w x Al cl
  rw [hW]
  clear hW
  refine (lgPut W (l := [x.kind, x.a, x.b, x.c, x.n]) hP0 hbw.size hbi (by simp) (by simp)).mono ?_
  rintro e W1 ⟨rfl, v1, hP1, _, hst1⟩
  have hks : ∀ q, (q = w.heap.size + 1 ∨ (Value.slice none 0 0).ownBlock = some q) → q = w.heap.size + 1 := fun q hq => by
    rcases hq with h | h
    · exact h
    · cases h
  have hB1 := hbw.trans (hst1.below (B := w.heap.size) (fun q hq => by have := hks q hq; omega) hbw.size)
  have hbx1 := Lib.hid (hst1.blk hbx0 (fun hh => by have := hks _ hh; omega))
  rw [List.nil_append, Bool.false_or] at hP1
  obtain ⟨bs1, hbs1⟩ : ∃ bs1, [x.kind, x.a, x.b, x.c, x.n].map byteOf = bs1 := ⟨_, rfl⟩
  obtain ⟨bd1, hbd1⟩ : ∃ bd1, (!([x.kind, x.a, x.b, x.c, x.n].all isByte)) = bd1 := ⟨_, rfl⟩
  rw [hbs1, hbd1] at hP1
  have hbs1' := Lib.hid hbs1
  have hbd1' := Lib.hid hbd1
  have hbl : bs1.length = 5 := by rw [← hbs1]; rfl
  clear hbs1 hbd1
  have c0 := hP1.1.cell (j := 0) rfl
  have x5 := hbx1.out.cell (j := 5) rfl
  have lx := hbx1.out.lt
  have lp := hP1.1.lt
  have hwn := byteOf_wrap (x.lines.length : Int)
  obtain ⟨nb, hnb⟩ : ∃ nb, byteOf (x.lines.length : Int) = nb := ⟨_, rfl⟩
  rw [hnb] at hwn
  have hnb' := Lib.hid hnb
  have hba : Below W1.heap.size W1 (W1.alloc (.cells #[.int .u8 nb] 5)).drew := ((Below.refl _ _).alloc (Nat.le_refl _) _).drew
  have hca : (W1.alloc (.cells #[.int .u8 nb] 5)).drew.cell? ⟨W1.heap.size, 0, none⟩ = some (.int .u8 nb) := (Blk.new W1 5 #[.int .u8 nb]).drew.cell (j := 0) rfl
  obtain ⟨v2, w2, hr1, hown2, hg2, hb2⟩ := run_app_byte _ w.heap.size v1 _ nb (hP1.2.below hba) W1.heap.size 1 hca (by omega) (Nat.le_trans hB1.size hba.size)
  obtain ⟨A2, c2, hv2⟩ := hown2.isSlice
  obtain ⟨n2, hn2⟩ : ∃ n2, (bs1 ++ [nb]).length = n2 := ⟨_, rfl⟩
  rw [hn2] at hv2
  subst hv2
  have hPa := hP1.below hba
  have hbp2 : Blk w2 (w.heap.size + 1) 117 [v1, .bool _] := hPa.1.grown hg2 (by
    rcases Own.notBox hPa.2 hPa.1 (by decide) with hn | hn
    · rw [hn]; intro he; cases he
    · exact fun he => hn he.symm)
  have hbx2 := hbx1.out.below hba lx
  have hbx3 := Lib.hid (show Blk w2 w.heap.size 34 _ from hbx2.grown hg2 (by
    rcases Own.notBox hPa.2 hbx2 (by decide) with hn | hn
    · rw [hn]; intro he; cases he
    · exact fun he => hn he.symm))
  obtain ⟨hP3, hg3⟩ := hPa.push hg2 hown2
  have hP3' := Lib.hid hP3
  have hg3' := Lib.hid hg3
  have b3 := hbp2.cell (j := 0) rfl
  have f3 := hbp2.frozen 0
  have lp2 := hbp2.lt
  have hB2 := Lib.hid ((hB1.trans (hba.mono hB1.size)).trans hb2)
  have hr1' := Lib.hid hr1
  clear hP1 hst1 hks hbw hP0 hbx0 hbi hr1 hown2 hg2 hb2 hPa hbp2 hbx2 hP3 hg3 hca hba hnb hn2 hbl
  go_wp2_with fail
  go_region_law (refine step_append_at _ rfl (.tmp 26) (.tmp 31) 115 115 rfl v1 (.slice (some ⟨W1.heap.size, 0, none⟩) 1 1) (by simp [Act.eval]) (by simp [Act.eval]) hr1'.out ?_)
  all_goals
    clear b3 f3 c0 x5 hwn hr1' lp2
    have hB3 := hB2.out.grown hg3'.out hB2.out.size (fun q hq => by injection hq with hq; omega)
    have hbx4 := Lib.hid (hbx3.out.grown hg3'.out (by intro he; injection he with he; omega))
    clear hB1 hbx1 lx lp hB2 hg3' hbx3
    generalize w2.setCell ⟨w.heap.size + 1, 0, none⟩ (.slice A2 n2 c2) = w4 at hP3' hB3 hbx4 ⊢
    have hP4 := Lib.hid (show PenV w4 w.heap.size (w.heap.size + 1) (.slice A2 n2 c2) (wbad x 0) (wrote x 0) by
      have e1 : wbad x 0 = bd1 := by
        rw [← hbd1'.out]
        unfold wbad
        rw [List.take_zero, List.all_nil, Bool.not_true, Bool.or_false]
      have e2 : wrote x 0 = bs1 ++ [nb] := by
        rw [← hbs1'.out, ← hnb'.out]
        unfold wrote
        rw [List.take_zero, List.flatMap_nil, List.append_nil]
        rfl
      rw [e1, e2]
      exact hP3'.out)
    clear hP3' hbs1' hbd1' hnb'
    have x5 := hbx4.out.cell (j := 5) rfl
    have lx := hbx4.out.lt
    go_wp2_with fail
    clear x5 lx
    go_loopw [38, 6] (fun i _ wr => ∃ (k : Nat) (v' : Value), k ≤ x.lines.length ∧ i = .int .i64 k ∧ PenV wr w.heap.size (w.heap.size + 1) v' (wbad x k) (wrote x k) ∧ Blk wr w.heap.size 34 [.int .i64 x.kind, .int .i64 x.a, .int .i64 x.b, .int .i64 x.c, .int .i64 x.n, .slice Al x.lines.length cl] ∧ Below w.heap.size w wr) (fun i _ _ => x.lines.length - (RowKit.intOf i).toNat)
    case atStart => exact ⟨0, _, Nat.zero_le _, rfl, hP4.out, hbx4.out, hB3⟩
    case round =>
      clear hP4 hbx4 hB3
      obtain ⟨k, v', hk, rfl, hP, hbx, hBr⟩ := hrel
      have hP' := Lib.hid hP
      have hbx' := Lib.hid hbx
      clear hP hbx
      by_cases hlt : k < x.lines.length
      · have hki : (k : Int) < (x.lines.length : Int) := by omega
        obtain ⟨okl, ll, f0, f1, f2, f3⟩ := (hL.out wr hBr).at_.line hlt
        have hws := Lib.hid (wrote_succ hlt)
        have hwb := Lib.hid (wbad_succ hlt)
        obtain ⟨y, hy⟩ : ∃ y, lineAt x.lines k = y := ⟨_, rfl⟩
        rw [hy] at f0 f1 f2 f3 hws hwb
        clear hy
        go_wp2_with fail
        clear f0 f1 f2 f3 okl ll
        have hb2 : Below wr.heap.size wr ((wr.alloc (.cells #[.int .i64 y.good, .int .i64 y.want, .int .i64 y.got, .int .i64 y.back] 44)).alloc (.cells #[.int .i64 y.good, .int .i64 y.want, .int .i64 y.got, .int .i64 y.back] 3)) := ((Below.refl _ _).alloc (Nat.le_refl _) _).alloc (by simp) _
        have hbi : Blk ((wr.alloc (.cells #[.int .i64 y.good, .int .i64 y.want, .int .i64 y.got, .int .i64 y.back] 44)).alloc (.cells #[.int .i64 y.good, .int .i64 y.want, .int .i64 y.got, .int .i64 y.back] 3)) (wr.heap.size + 1) 3 ([y.good, y.want, y.got, y.back].map (Value.int .i64)) := by
          have h := Blk.new (wr.alloc (.cells #[.int .i64 y.good, .int .i64 y.want, .int .i64 y.got, .int .i64 y.back] 44)) 3 #[.int .i64 y.good, .int .i64 y.want, .int .i64 y.got, .int .i64 y.back]
          rw [World.size_alloc] at h
          exact h
        generalize (wr.alloc (.cells #[.int .i64 y.good, .int .i64 y.want, .int .i64 y.got, .int .i64 y.back] 44)).alloc (.cells #[.int .i64 y.good, .int .i64 y.want, .int .i64 y.got, .int .i64 y.back] 3) = W2 at hb2 hbi ⊢
        have hwl := wrote_len x k
        refine (lgPut W2 (l := [y.good, y.want, y.got, y.back]) (hP'.out.below hb2) (Nat.le_trans hBr.size hb2.size) hbi (by simp) (by omega)).mono ?_
        rintro e W3 ⟨rfl, v3, hP3, _, hst3⟩
        have hks : ∀ q, (q = w.heap.size + 1 ∨ v'.ownBlock = some q) → w.heap.size ≤ q ∧ q ≠ w.heap.size := fun q hq => by
          rcases hq with rfl | hq
          · omega
          · refine ⟨(hP'.out.2.size q hq).1, fun he => ?_⟩
            rcases Own.notBox hP'.out.2 hbx'.out (by decide) with h | h
            · rw [h] at hq; cases hq
            · exact h (by rw [hq, he])
        have hB3 := (hBr.trans (hb2.mono hBr.size)).trans (hst3.below (B := w.heap.size) (fun q hq => (hks q hq).1) (Nat.le_trans hBr.size hb2.size))
        have hbx3 := Lib.hid (hst3.blk (hbx'.out.below hb2 hbx'.out.lt) (fun hh => (hks _ hh).2 rfl))
        have hP3' := Lib.hid (show PenV W3 w.heap.size (w.heap.size + 1) v3 (wbad x (k + 1)) (wrote x (k + 1)) by rw [hws.out, hwb.out]; exact hP3)
        clear hP3 hst3 hks hb2 hbi hP' hbx' hws hwb hwl
        go_wp2_with fail
        go_roundw
        case rel => exact ⟨k + 1, v3, by omega, by go_num, hP3'.out, hbx3.out, hB3⟩
        case measure => simp [RowKit.intOf]; omega
      · obtain rfl : k = x.lines.length := by omega
        have c1 := hP'.out.1.cell (j := 1) rfl
        have c0 := hP'.out.1.cell (j := 0) rfl
        have lp := hP'.out.1.lt
        have x5 := hbx'.out.cell (j := 5) rfl
        have lx := hbx'.out.lt
        rw [wbad_all] at c1
        clear hlt
        cases hab : allByte x
        · rw [hab] at c1
          have hfin := Lib.hid (show writeE x = ([], 3) by unfold writeE; rw [hab]; rfl)
          clear hab
          go_wp2_with fail
          exact bodyPost_ret (v := .tuple #[.string (bstr []), .int .i64 3]) (by simp [results, Tryz.results28, go_sem, bstr]) rfl ⟨by rw [hfin.out], hBr⟩
        · rw [hab] at c1
          by_cases h3 : 3 < x.lines.length
          · have hfin := Lib.hid (show writeE x = ([], 2) by unfold writeE; rw [hab, if_neg (by simp), if_pos h3])
            have h3i : (3 : Int) < (x.lines.length : Int) := by omega
            clear hab
            go_wp2_with fail
            exact bodyPost_ret (v := .tuple #[.string (bstr []), .int .i64 2]) (by simp [results, Tryz.results28, go_sem, bstr]) rfl ⟨by rw [hfin.out], hBr⟩
          · have hfin := Lib.hid (show writeE x = (wrote x x.lines.length, 0) by unfold writeE; rw [hab, if_neg (by simp), if_neg h3, wrote_all hab (by omega)])
            have h3i : ¬ (3 : Int) < (x.lines.length : Int) := by omega
            obtain ⟨A9, c9, hv9⟩ := hP'.out.2.isSlice
            obtain ⟨n9, hn9⟩ : ∃ n9, (wrote x x.lines.length).length = n9 := ⟨_, rfl⟩
            rw [hn9] at hv9
            subst hv9
            have hconv := conv_bytes hP'.out.2 (wrote_lt x _) (by unfold wrote; simp)
            clear hab hn9
            go_wp2_with fail
            exact bodyPost_ret (v := .tuple #[.string (bstr (wrote x x.lines.length)), .int .i64 0]) (by simp [results, Tryz.results28, go_sem]) rfl ⟨by rw [hfin.out], hBr⟩
end Wh
namespace Wh
open Go Go.RowKit Go.Shelf Go.Proofs
attribute [local go_sem] run_indexAt_letter evL_tmp evL_const evL_func

theorem bstr_size (l : List Nat) : (bstr l).size = l.length := by simp [bstr, ByteArray.size]
theorem bstr_tail (n : Nat) (r : List Nat) : (bstr (n :: r)).extract 1 (r.length + 1) = bstr r := by
  unfold bstr
  rw [ByteArray.extract_mk]
  have h : ((n :: r).map UInt8.ofNat).drop 1 = r.map UInt8.ofNat := rfl
  rw [h, List.take_of_length_le (by simp)]
theorem bstr_list (l : List Nat) : (bstr l).toList = l.map UInt8.ofNat := by
  rw [ByteArray.toList_eq]
  simp [bstr]
theorem bstr_get (n : Nat) (r : List Nat) (hn : n < 256) (h : 0 < (bstr (n :: r)).size) : (((bstr (n :: r))[0]'h).toNat : Int) = n := by
  have e : (bstr (n :: r))[0]'h = UInt8.ofNat n := rfl
  rw [e]
  simp
  omega

set_option maxHeartbeats 2000000 in
theorem lgNum (w : World) {gb n : Nat} {r : List Nat} (hg : Blk w gb 176 [.string (bstr (n :: r))]) (hn : n < 256) :
    Calls Tryz.prog 146 #[.pointer (some ⟨gb, 0, none⟩)] w fun e w' => e = .returned (.int .i64 n) ∧ Blk w' gb 176 [.string (bstr r)] ∧ w.grownBy w' (some gb) := by
  have c0 := hg.cell (j := 0) rfl
  have f0 := hg.frozen 0
  have hsz := bstr_size (n :: r)
  have hne : (bstr (n :: r)).toList.isEmpty = false := by rw [bstr_list]; rfl
  have htl := bstr_tail n r
  have hg' := Lib.hid hg
  clear hg
  go_enter Tryz.func146, Tryz.ntmps146
  go_wp2_with fail
  go_ret
  obtain ⟨h1, h2⟩ := set_row hg'.out 0 (.string (bstr r))
  refine ⟨?_, h1, h2⟩
  rw [bstr_get n r hn]
  have : wrap64 (n : Int) = n := by unfold wrap64; omega
  rw [this]
  rfl

theorem lgNumShort (w : World) {gb : Nat} (hg : Blk w gb 176 [.string (bstr [])]) :
    Calls Tryz.prog 146 #[.pointer (some ⟨gb, 0, none⟩)] w fun e w' => e = .panicked [{ v := .iface 181 (.agg #[]), recovered := false }] ∧ w = w' := by
  have c0 := hg.cell (j := 0) rfl
  have hne : (bstr []).toList.isEmpty = true := by rw [bstr_list]; rfl
  go_enter Tryz.func146, Tryz.ntmps146
  go_wp2_with fail
  exact ⟨rfl, rfl, rfl⟩

/-- What is thrown where a text ends too early. -/
def shortP : List PanicEntry := [{ v := .iface 181 (.agg #[]), recovered := false }]
def IntoPost (w : World) (gb tb m : Nat) (T : TypeId) (l : List Nat) (cs : List Value) (e : Ending) (w' : World) : Prop :=
  Step (fun j => j = gb ∨ j = tb) w w' ∧ ((m ≤ l.length ∧ e = .returned (.tuple #[]) ∧ Blk w' gb 176 [.string (bstr (l.drop m))] ∧ Blk w' tb T ((l.take m).map (fun n : Nat => Value.int .i64 n) ++ cs.drop m)) ∨
    (l.length < m ∧ e = .panicked shortP ∧ ∃ cs', cs'.length = cs.length ∧ Blk w' tb T cs'))
theorem into_set {l : List Nat} {cs : List Value} {k : Nat} (hk : k < l.length) (hc : k < cs.length) : ((l.take k).map (fun n : Nat => Value.int .i64 n) ++ cs.drop k).set k (.int .i64 (l[k] : Nat)) = (l.take (k + 1)).map (fun n : Nat => Value.int .i64 n) ++ cs.drop (k + 1) := by
  have e1 : ((l.take k).map (fun n : Nat => Value.int .i64 n)).length = k := by rw [List.length_map, List.length_take]; omega
  have h := List.set_append_right (s := (l.take k).map (fun n : Nat => Value.int .i64 n)) (t := cs.drop k) k (.int .i64 (l[k] : Nat)) (by rw [e1]; exact Nat.le_refl _)
  rw [h, e1, Nat.sub_self, List.drop_eq_getElem_cons hc, List.set_cons_zero, take_snoc hk, List.map_append, List.append_assoc]
  rfl

set_option maxHeartbeats 4000000 in
theorem lgInto (w : World) {gb tb lb m : Nat} {T : TypeId} {l : List Nat} {cs : List Value} (hg : Blk w gb 176 [.string (bstr l)]) (ht : Blk w tb T cs) (hT : T ≠ 176) (hT2 : T ≠ 178)
    (hl : Blk w lb 178 ((List.range m).map fun i => Value.pointer (some ⟨tb, i, none⟩))) (hm : m ≤ cs.length) (hm8 : m ≤ 8) (hb : ∀ n ∈ l, n < 256) :
    Calls Tryz.prog 145 #[.pointer (some ⟨gb, 0, none⟩), .slice (some ⟨lb, 0, none⟩) m m] w (IntoPost w gb tb m T l cs) := by
  have hg' := Lib.hid hg
  have ht' := Lib.hid ht
  have hl' := Lib.hid hl
  have hb' := Lib.hid hb
  have n1 : tb ≠ gb := ht.ne hg hT
  have n2 : lb ≠ gb := hl.ne hg (by decide)
  have n3 : lb ≠ tb := hl.ne ht (Ne.symm hT2)
  clear hg ht hl hb
  go_enter Tryz.func145, Tryz.ntmps145
  go_wp2_with fail
  go_loopw [8, 5] (fun i _ wr => ∃ k : Nat, k ≤ m ∧ k ≤ l.length ∧ i = .int .i64 k ∧ Blk wr gb 176 [.string (bstr (l.drop k))] ∧ Blk wr tb T ((l.take k).map (fun n : Nat => Value.int .i64 n) ++ cs.drop k) ∧ Step (fun j => j = gb ∨ j = tb) w wr) (fun i _ _ => m - (RowKit.intOf i).toNat)
  case atStart => exact ⟨0, Nat.zero_le _, Nat.zero_le _, rfl, hg'.out, by simpa using ht'.out, Step.refl _ _⟩
  case round =>
    obtain ⟨k, hk, hkl, rfl, hg, ht, hst⟩ := hrel
    have hgr := Lib.hid hg
    have htr := Lib.hid ht
    have hst' := Lib.hid hst
    clear hg ht hst
    by_cases hlt : k < m
    · have hki : (k : Int) < (m : Int) := by omega
      have hcl : wr.cell? ⟨lb, k, none⟩ = some (.pointer (some ⟨tb, k, none⟩)) := (hst'.out.blk hl'.out (by omega)).cell (j := k) (by rw [List.getElem?_map, List.getElem?_range hlt]; rfl)
      have ll := (hst'.out.blk hl'.out (show ¬ (lb = gb ∨ lb = tb) by omega)).lt
      by_cases hlen : k < l.length
      · have hdr : l.drop k = l[k] :: l.drop (k + 1) := List.drop_eq_getElem_cons hlen
        have hn := hb'.out _ (List.getElem_mem hlen)
        have hset := Lib.hid (into_set hlen (show k < cs.length by omega))
        obtain ⟨n, hnn⟩ : ∃ n, l[k] = n := ⟨_, rfl⟩
        rw [hnn] at hdr hn hset
        have hgr2 := Lib.hid (show Blk wr gb 176 [.string (bstr (n :: l.drop (k + 1)))] by rw [← hdr]; exact hgr.out)
        clear hdr hgr hnn
        go_wp2_with fail
        refine (lgNum wr hgr2.out hn).mono ?_
        rintro e W1 ⟨rfl, hg1, hgn⟩
        have ht1 := Lib.hid (htr.out.grown hgn (by intro he; injection he with he; exact n1 he))
        have hg1' := Lib.hid hg1
        have hst1 := Lib.hid (hst'.out.trans (Step.of_grown (ks := fun j => j = gb ∨ j = tb) hgn (fun q hq => by injection hq with hq; exact .inl hq.symm)))
        have c1 : ∃ u, W1.cell? ⟨tb, k, none⟩ = some u := ⟨_, ht1.out.cell (j := k) (List.getElem?_eq_getElem (by rw [List.length_append, List.length_map, List.length_take, List.length_drop]; omega))⟩
        obtain ⟨u, c1⟩ := c1
        clear hg1 hgn htr hst' hgr2 hcl
        go_wp2_with (refine wpList_store_int rfl (.tmp 15) (.tmp 14) rfl rfl tb k u n rfl rfl c1 (ht1.out.frozen _) (fun w3 hw3 => ?_); refine Hid.out ?_)
        unfold Hid
        obtain ⟨ht3, hg3⟩ := set_row ht1.out k (.int .i64 n)
        rw [hset.out, hw3] at ht3
        rw [hw3] at hg3
        have ht3' := Lib.hid ht3
        have hg3' := Lib.hid (hg1'.out.grown hg3 (by intro he; injection he with he; exact n1 he.symm))
        have hst3 := Lib.hid (hst1.out.trans (Step.of_grown (ks := fun j => j = gb ∨ j = tb) hg3 (fun q hq => by injection hq with hq; exact .inr hq.symm)))
        clear ht3 hg3 hw3 ht1 hg1' hst1 c1
        go_wp2_with fail
        go_roundw
        case rel => exact ⟨k + 1, by omega, by omega, by go_num, hg3'.out, ht3'.out, hst3.out⟩
        case measure => simp [RowKit.intOf]; omega
      · have hdr : l.drop k = [] := List.drop_eq_nil_of_le (by omega)
        have hgr2 := Lib.hid (show Blk wr gb 176 [.string (bstr [])] by rw [← hdr]; exact hgr.out)
        clear hgr hdr
        go_wp2_with fail
        refine (lgNumShort wr hgr2.out).mono ?_
        rintro e W1 ⟨rfl, rfl⟩
        go_wp2_with fail
        exact ⟨rfl, hst'.out, .inr ⟨by omega, rfl, _, by rw [List.length_append, List.length_map, List.length_take, List.length_drop]; omega, htr.out⟩⟩
    · obtain rfl : k = m := by omega
      go_wp2_with fail
      go_end0
      exact ⟨hst'.out, .inl ⟨hkl, rfl, hgr.out, htr.out⟩⟩
end Wh
namespace Wh
open Go Go.RowKit Go.Shelf Go.Proofs
attribute [local go_sem] run_indexAt_letter evL_tmp evL_const evL_func

def zAct : List Value := [.int .i64 0, .int .i64 0, .int .i64 0, .int .i64 0, .int .i64 0, .slice none 0 0]
set_option maxHeartbeats 4000000 in
theorem rdCaught (w : World) {sb xb rb ib : Nat} {s : ByteArray} {cx : List Value} {r0 i0 : Value} (hs : Blk w sb 9 [.string s]) (hx : Blk w xb 34 cx) (hcx : cx.length = 6) (hr : Blk w rb 9 [r0]) (hi : Blk w ib 4 [i0]) (u : TypeId) (pv : Value) (older : List PanicEntry) :
    CallsD Tryz.prog 144 #[.pointer (some ⟨sb, 0, none⟩), .pointer (some ⟨xb, 0, none⟩), .pointer (some ⟨rb, 0, none⟩), .pointer (some ⟨ib, 0, none⟩)] (.panicking ({ v := .iface u pv, recovered := false } :: older)) w fun e u' w' =>
      e = .returned (.tuple #[]) ∧ u' = .panicking ({ v := .iface u pv, recovered := true } :: older) ∧ Blk w' xb 34 zAct ∧ Blk w' rb 9 [.string s] ∧ Blk w' ib 4 [.bool false] ∧ Step (fun j => j = xb ∨ j = rb ∨ j = ib) w w' := by
  have cs0 := hs.cell (j := 0) rfl
  refine callsD_of_wpS Tryz.func144 rfl fun c₀ cs hu => ?_
  apply wpS_seq
  apply wpS_region
  simp [wpOpsS, go_sem, recoverD, hu, Tryz.ntmps144, Exit.thenS]
  refine wpS_cond (t := true) (by simp [Act.eval, Array.replicate]) ?_
  simp only [if_true]
  refine wpS_of_wp ?_
  go_wp2_with (refine wpList_store_row rfl 34 (.tmp 1) (.tmp 6) rfl xb zAct.toArray rfl rfl 34 cx.toArray hx (by kernel_rfl) (by simp [hcx, zAct]) (by simp [zAct, Value.oneCell']) ?_; refine Hid.out ?_)
  unfold Hid
  have n1 : rb ≠ xb := hr.ne hx (by decide)
  have n2 : ib ≠ xb := hi.ne hx (by decide)
  have n3 : ib ≠ rb := hi.ne hr (by decide)
  have hx1 := Lib.hid (hx.row zAct)
  have hr1 := Lib.hid (hr.other n1 zAct.toArray)
  have hi1 := Lib.hid (hi.other n2 zAct.toArray)
  have hst1 := Lib.hid (Step.of_grown (ks := fun j => j = xb ∨ j = rb ∨ j = ib) (grown_row w xb zAct.toArray) (fun q hq => by injection hq with hq; exact .inl hq.symm))
  generalize w.setRow xb zAct.toArray = w1 at hx1 hr1 hi1 hst1 ⊢
  clear hs hx hcx hr hi cs0 n1 n2
  have d1 := hr1.out.cell (j := 0) rfl
  have f1 := hr1.out.frozen 0
  have d2 := hi1.out.cell (j := 0) rfl
  have f2 := hi1.out.frozen 0
  go_wp2_with fail
  obtain ⟨hr2, hg2⟩ := set_row hr1.out 0 (.string s)
  have hx2 := hx1.out.grown hg2 (by intro he; injection he with he; exact (hx1.out.ne hr1.out (by decide)) he)
  have hi2 := hi1.out.grown hg2 (by intro he; injection he with he; exact n3 he)
  obtain ⟨hi3, hg3⟩ := set_row hi2 0 (.bool false)
  have hr3 := hr2.grown hg3 (by intro he; injection he with he; exact n3 he.symm)
  have hx3 := hx2.grown hg3 (by intro he; injection he with he; exact (hx2.ne hi2 (by decide)) he)
  have hst3 := (hst1.out.trans (Step.of_grown (ks := fun j => j = xb ∨ j = rb ∨ j = ib) hg2 (fun q hq => by injection hq with hq; exact .inr (.inl hq.symm)))).trans (Step.of_grown (ks := fun j => j = xb ∨ j = rb ∨ j = ib) hg3 (fun q hq => by injection hq with hq; exact .inr (.inr hq.symm)))
  exact ⟨rfl, _, rfl, _, results_none rfl _ _ _, rfl, rfl, hx3, hr3, hi3, hst3⟩

theorem rdIdle (w : World) (sb xb rb ib : Nat) : CallsD Tryz.prog 144 #[.pointer (some ⟨sb, 0, none⟩), .pointer (some ⟨xb, 0, none⟩), .pointer (some ⟨rb, 0, none⟩), .pointer (some ⟨ib, 0, none⟩)] .returning w fun e u' w' => e = .returned (.tuple #[]) ∧ u' = .returning ∧ w = w' := by
  refine callsD_of_wpS Tryz.func144 rfl fun c₀ cs hu => ?_
  apply wpS_seq
  apply wpS_region
  simp [wpOpsS, go_sem, recoverD, hu, Tryz.ntmps144, Exit.thenS]
  refine wpS_cond (t := false) (by simp [Act.eval, Array.replicate]) ?_
  simp only [Bool.false_eq_true, if_false]
  refine wpS_of_wp (wp_skip ?_)
  cases c₀
  simp_all [bodyPostS, results, Tryz.results144]
end Wh
