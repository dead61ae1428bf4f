/- Texts of the claim, joined: LogP, LogF, LogG. -/
import Derived.Laws.Strings2
import Derived.Laws.PanicsMore
import Derived.Defers
import Derived.Recover
import Derived.Test.YtfhfkijmebhgmaaGreatQ18
import Derived.Test.YtfhfkijmebhgmaaGreatQ09
namespace Wh
open Go Go.RowKit Go.Shelf Go.Proofs
attribute [local go_sem] run_indexAt_letter evL_tmp evL_const evL_func

theorem rByte (n : Int) (w : World) : Calls Tryz.prog 38 #[.int .i64 n, .int .i64 0, .int .i64 255] w fun e w' => e = .returned (.bool (isByte n)) ∧ w = w' := rWithin n 0 255 w
theorem writeE_bad {x : Deed} (h : allByte x = false) : writeE x = ([], 3) := by unfold writeE; rw [h]; rfl
theorem allByte_of {x : Deed} : allByte x = (([x.kind, x.a, x.b, x.c, x.n].all isByte) && x.lines.all lineByte) := by
  unfold allByte
  simp only [List.all_cons, List.all_nil, Bool.and_true, Bool.and_assoc]
theorem all_at_false {α : Type} {f : α → Bool} {l : List α} {k : Nat} (hk : k < l.length) (h : f l[k] = false) : l.all f = false := by
  cases hl : l.all f
  · rfl
  · rw [List.all_eq_true] at hl
    rw [hl _ (List.getElem_mem hk)] at h
    cases h
theorem all_take_succ {α : Type} {f : α → Bool} {l : List α} {k : Nat} (hk : k < l.length) (h : (l.take k).all f = true) (h2 : f l[k] = true) : (l.take (k + 1)).all f = true := by
  rw [take_snoc hk, List.all_append, h, List.all_cons, h2]
  rfl

set_option maxHeartbeats 8000000 in
set_option maxRecDepth 100000 in
theorem rActBytes (w : World) (v : Value) (x : Deed) (hv : DeedV w w.heap.size v x) (hlb : x.lines.length ≤ 4398046511104) :
    Calls Tryz.prog 29 #[v] w fun e w' => e = .returned (.tuple #[.string (bstr (writeE x).1), .int .i64 (writeE x).2]) ∧ Below w.heap.size w w' := by
  obtain ⟨Al, cl, rfl, hX, hL, hll⟩ := openDeed hv
  clear hv hX
  obtain ⟨W, hW, hbw, hbx0, hbi⟩ : ∃ W : World, (w.alloc (.cells #[.int .i64 x.kind, .int .i64 x.a, .int .i64 x.b, .int .i64 x.c, .int .i64 x.n, .slice Al x.lines.length cl] 34)).alloc (.cells #[.int .i64 x.kind, .int .i64 x.a, .int .i64 x.b, .int .i64 x.c, .int .i64 x.n] 3) = W ∧
      Below w.heap.size w W ∧ Blk W w.heap.size 34 [.int .i64 x.kind, .int .i64 x.a, .int .i64 x.b, .int .i64 x.c, .int .i64 x.n, .slice Al x.lines.length cl] ∧ Blk W (w.heap.size + 1) 3 ([x.kind, x.a, x.b, x.c, x.n].map (Value.int .i64)) := by
    have h1 := Blk.new w 34 #[.int .i64 x.kind, .int .i64 x.a, .int .i64 x.b, .int .i64 x.c, .int .i64 x.n, .slice Al x.lines.length cl]
    have h2 := Blk.new (w.alloc (.cells #[.int .i64 x.kind, .int .i64 x.a, .int .i64 x.b, .int .i64 x.c, .int .i64 x.n, .slice Al x.lines.length cl] 34)) 3 #[.int .i64 x.kind, .int .i64 x.a, .int .i64 x.b, .int .i64 x.c, .int .i64 x.n]
    rw [World.size_alloc] at h2
    exact ⟨_, rfl, ((Below.refl _ _).alloc (Nat.le_refl _) _).alloc (by simp) _, h1.alloc _, h2⟩
  obtain ⟨L, hLe⟩ : ∃ L, [x.kind, x.a, x.b, x.c, x.n] = L := ⟨_, rfl⟩
  have hL5 : L.length = 5 := by rw [← hLe]; rfl
  rw [hLe] at hbi
  have hLe' := Lib.hid hLe
  have hW' := Lib.hid hW
  clear hLe hW
  go_enter Tryz.func29, Tryz.ntmps29
  go_wp2_with fail
  rw [hW'.out]
  clear hW'
  have hbx' := Lib.hid hbx0
  have hbi' := Lib.hid hbi
  clear hbx0 hbi
  go_loopw [5] (fun i wr => ∃ k : Nat, k ≤ 5 ∧ i = .int .i64 k ∧ (L.take k).all isByte = true ∧ wr = W) (fun i _ => 5 - (RowKit.intOf i).toNat)
  case atStart => exact ⟨0, by omega, rfl, by simp, rfl⟩
  case round =>
    obtain ⟨k, hk, rfl, hall, rfl⟩ := hrel
    have hall' := Lib.hid hall
    clear hall
    by_cases hlt : k < 5
    · have hkl : k < L.length := by omega
      have hki : (k : Int) < 5 := by omega
      obtain ⟨n, hn⟩ : ∃ n, L[k] = n := ⟨_, rfl⟩
      have hc : wr.cell? ⟨w.heap.size + 1, k, none⟩ = some (.int .i64 n) := hbi'.out.cell (j := k) (by rw [List.getElem?_map, List.getElem?_eq_getElem hkl, hn]; rfl)
      have lb := hbi'.out.lt
      have hn' := Lib.hid hn
      clear hn
      go_wp2_with fail
      refine (rByte n wr).mono ?_
      rintro e W1 ⟨rfl, rfl⟩
      cases hq : isByte n
      · have hfin := Lib.hid (writeE_bad (x := x) (by rw [allByte_of, hLe'.out, all_at_false hkl (by rw [hn'.out]; exact hq)]; rfl))
        clear hq
        go_wp2_with fail
        exact bodyPost_ret (v := .tuple #[.string (bstr []), .int .i64 3]) (by simp [results, Tryz.results29, go_sem, bstr]) rfl ⟨by rw [hfin.out], hbw⟩
      · have hall2 := Lib.hid (all_take_succ hkl hall'.out (by rw [hn'.out]; exact hq))
        clear hq
        go_wp2_with fail
        clear hc lb
        go_roundw
        case rel => exact ⟨k + 1, by omega, by go_num, hall2.out, trivial⟩
        case measure => simp [RowKit.intOf]; omega
    · have hk5 : k = L.length := by omega
      have hki : ¬ (k : Int) < 5 := by omega
      rw [hk5, List.take_length] at hall'
      clear hbi'
      have x5 := hbx'.out.cell (j := 5) rfl
      have lx := hbx'.out.lt
      go_wp2_with fail
      clear x5 lx hlt hk hk5 hki
      go_loopw [6, 7] (fun i _ w2 => ∃ k : Nat, k ≤ x.lines.length ∧ i = .int .i64 k ∧ (x.lines.take k).all lineByte = true ∧ Blk w2 w.heap.size 34 [.int .i64 x.kind, .int .i64 x.a, .int .i64 x.b, .int .i64 x.c, .int .i64 x.n, .slice Al x.lines.length cl] ∧ Below w.heap.size w w2) (fun i _ _ => x.lines.length - (RowKit.intOf i).toNat)
      case atStart => exact ⟨0, Nat.zero_le _, rfl, by simp, hbx'.out, hbw⟩
      case round =>
        clear hbx' hbw
        obtain ⟨k, hk, rfl, hal, hbx, hBr⟩ := hrel
        have hal' := Lib.hid hal
        have hbx' := Lib.hid hbx
        clear hal hbx
        have x5 := hbx'.out.cell (j := 5) rfl
        have lx := hbx'.out.lt
        by_cases hlt : k < x.lines.length
        · have hki : (k : Int) < (x.lines.length : Int) := by omega
          have e0 : lineAt x.lines k = x.lines[k] := by simp [lineAt, hlt]
          obtain ⟨okl, ll, f0, f1, f2, f3⟩ := (hL.out wr hBr).at_.line hlt
          obtain ⟨y, hy⟩ : ∃ y, lineAt x.lines k = y := ⟨_, rfl⟩
          rw [hy] at f0 f1 f2 f3
          have hy' := Lib.hid (show x.lines[k] = y from e0.symm.trans hy)
          have hbx2 := Lib.hid (hbx'.out.alloc (.cells #[.int .i64 y.good, .int .i64 y.want, .int .i64 y.got, .int .i64 y.back] 44))
          have hB2 := hBr.alloc hBr.size (.cells #[.int .i64 y.good, .int .i64 y.want, .int .i64 y.got, .int .i64 y.back] 44)
          clear e0 hy
          go_wp2_with fail
          clear f0 f1 f2 f3 okl ll x5
          refine (rByte y.good _).mono ?_
          rintro e W1 ⟨rfl, rfl⟩
          cases hq1 : isByte y.good
          · have hlb : lineByte y = false := by unfold lineByte; rw [hq1]; rfl
            have hfin := Lib.hid (writeE_bad (x := x) (by rw [allByte_of, all_at_false hlt (by rw [hy'.out]; exact hlb), Bool.and_false]))
            clear hlb
            go_wp2_with fail
            exact bodyPost_ret (v := .tuple #[.string (bstr []), .int .i64 3]) (by simp [results, Tryz.results29, go_sem, bstr]) rfl ⟨by rw [hfin.out], hB2⟩
          go_wp2_with fail
          refine (rByte y.want _).mono ?_
          rintro e W1 ⟨rfl, rfl⟩
          cases hq2 : isByte y.want
          · have hlb : lineByte y = false := by unfold lineByte; rw [hq2, Bool.and_false]; rfl
            have hfin := Lib.hid (writeE_bad (x := x) (by rw [allByte_of, all_at_false hlt (by rw [hy'.out]; exact hlb), Bool.and_false]))
            clear hlb
            go_wp2_with fail
            exact bodyPost_ret (v := .tuple #[.string (bstr []), .int .i64 3]) (by simp [results, Tryz.results29, go_sem, bstr]) rfl ⟨by rw [hfin.out], hB2⟩
          go_wp2_with fail
          refine (rByte y.got _).mono ?_
          rintro e W1 ⟨rfl, rfl⟩
          cases hq3 : isByte y.got
          · have hlb : lineByte y = false := by unfold lineByte; rw [hq3, Bool.and_false]; rfl
            have hfin := Lib.hid (writeE_bad (x := x) (by rw [allByte_of, all_at_false hlt (by rw [hy'.out]; exact hlb), Bool.and_false]))
            clear hlb
            go_wp2_with fail
            exact bodyPost_ret (v := .tuple #[.string (bstr []), .int .i64 3]) (by simp [results, Tryz.results29, go_sem, bstr]) rfl ⟨by rw [hfin.out], hB2⟩
          go_wp2_with fail
          refine (rByte y.back _).mono ?_
          rintro e W1 ⟨rfl, rfl⟩
          cases hq4 : isByte y.back
          · have hlb : lineByte y = false := by unfold lineByte; rw [hq4, Bool.and_false]
            have hfin := Lib.hid (writeE_bad (x := x) (by rw [allByte_of, all_at_false hlt (by rw [hy'.out]; exact hlb), Bool.and_false]))
            clear hlb
            go_wp2_with fail
            exact bodyPost_ret (v := .tuple #[.string (bstr []), .int .i64 3]) (by simp [results, Tryz.results29, go_sem, bstr]) rfl ⟨by rw [hfin.out], hB2⟩
          have hal2 := Lib.hid (all_take_succ hlt hal'.out (by rw [hy'.out]; unfold lineByte; rw [hq1, hq2, hq3, hq4]; rfl))
          clear hal' hy' hbx' hq1 hq2 hq3 hq4
          go_wp2_with fail
          go_roundw
          case rel => exact ⟨k + 1, by omega, by go_num, hal2.out, hbx2.out, hB2⟩
          case measure => simp [RowKit.intOf]; omega
        · obtain rfl : k = x.lines.length := by omega
          rw [List.take_length] at hal'
          have hab : allByte x = true := by rw [allByte_of, hLe'.out, hall'.out, hal'.out]; rfl
          by_cases h3 : 3 < x.lines.length
          · have hfin := Lib.hid (show writeE x = ([], 2) by unfold writeE; rw [hab, if_neg (by simp), if_pos h3])
            have h3i : (3 : Int) < (x.lines.length : Int) := by omega
            clear hab
            go_wp2_with fail
            exact bodyPost_ret (v := .tuple #[.string (bstr []), .int .i64 2]) (by simp [results, Tryz.results29, go_sem, bstr]) rfl ⟨by rw [hfin.out], hBr⟩
          · have h3i : ¬ (3 : Int) < (x.lines.length : Int) := by omega
            have hfin := Lib.hid (show writeE x = (wrote x x.lines.length, 0) by unfold writeE; rw [hab, if_neg (by simp), if_neg h3, wrote_all hab (by omega)])
            have x0 := hbx'.out.cell (j := 0) rfl
            have x1 := hbx'.out.cell (j := 1) rfl
            have x2 := hbx'.out.cell (j := 2) rfl
            have x3 := hbx'.out.cell (j := 3) rfl
            have x4 := hbx'.out.cell (j := 4) rfl
            have w0 := byteOf_wrap x.kind
            have w1 := byteOf_wrap x.a
            have w2 := byteOf_wrap x.b
            have w3 := byteOf_wrap x.c
            have w4 := byteOf_wrap x.n
            have w5 := byteOf_wrap (x.lines.length : Int)
            have hOs := Lib.hid (Own.lit (enc := cByte) (size := 1) (base := w.heap.size) wr 5 #[.int .u8 (byteOf x.kind), .int .u8 (byteOf x.a), .int .u8 (byteOf x.b), .int .u8 (byteOf x.c), .int .u8 (byteOf x.n), .int .u8 (byteOf x.lines.length)] [byteOf x.kind, byteOf x.a, byteOf x.b, byteOf x.c, byteOf x.n, byteOf x.lines.length] hBr.size (by simp) (fun _ => rfl) rfl)
            have hB3 := hBr.alloc hBr.size (.cells #[.int .u8 (byteOf x.kind), .int .u8 (byteOf x.a), .int .u8 (byteOf x.b), .int .u8 (byteOf x.c), .int .u8 (byteOf x.n), .int .u8 (byteOf x.lines.length)] 5)
            have hbx3 := Lib.hid (hbx'.out.alloc (.cells #[.int .u8 (byteOf x.kind), .int .u8 (byteOf x.a), .int .u8 (byteOf x.b), .int .u8 (byteOf x.c), .int .u8 (byteOf x.n), .int .u8 (byteOf x.lines.length)] 5))
            clear hab hlt hal' hall'
            go_wp2_with fail
            clear x0 x1 x2 x3 x4 x5 w0 w1 w2 w3 w4 w5 lx hbx'
            go_loopw [9, 8, 10] (fun i bv _ wr => ∃ k : Nat, k ≤ x.lines.length ∧ i = .int .i64 k ∧ Own cByte 1 5 wr w.heap.size bv (wrote x k) ∧ Blk wr w.heap.size 34 [.int .i64 x.kind, .int .i64 x.a, .int .i64 x.b, .int .i64 x.c, .int .i64 x.n, .slice Al x.lines.length cl] ∧ Below w.heap.size w wr) (fun i _ _ _ => x.lines.length - (RowKit.intOf i).toNat)
            case atStart => exact ⟨0, Nat.zero_le _, rfl, by
              have e : wrote x 0 = [byteOf x.kind, byteOf x.a, byteOf x.b, byteOf x.c, byteOf x.n, byteOf x.lines.length] := by
                unfold wrote
                rw [List.take_zero, List.flatMap_nil, List.append_nil]
              rw [e]
              exact hOs.out, hbx3.out, hB3⟩
            case round =>
              clear hOs hbx3 hB3 hBr
              obtain ⟨k, hk, rfl, hO, hbx, hBr⟩ := hrel
              obtain ⟨A1, c1, hv1⟩ := hO.isSlice
              obtain ⟨n1, hn1⟩ : ∃ n1, (wrote x k).length = n1 := ⟨_, rfl⟩
              rw [hn1] at hv1
              subst hv1
              have hO' := Lib.hid hO
              have hbx' := Lib.hid hbx
              have hn1' := Lib.hid hn1
              clear hO hbx hn1
              have x5 := hbx'.out.cell (j := 5) rfl
              have lx := hbx'.out.lt
              by_cases hlt : k < x.lines.length
              · have hki : (k : Int) < (x.lines.length : Int) := by omega
                obtain ⟨okl, ll, f0, f1, f2, f3⟩ := (hL.out _ hBr).at_.line hlt
                have hws := Lib.hid (wrote_succ hlt)
                obtain ⟨y, hy⟩ : ∃ y, lineAt x.lines k = y := ⟨_, rfl⟩
                rw [hy] at f0 f1 f2 f3 hws
                have w0 := byteOf_wrap y.good
                have w1 := byteOf_wrap y.want
                have w2 := byteOf_wrap y.got
                have w3 := byteOf_wrap y.back
                have hwl := wrote_len x k
                have hb2 : Below wr.heap.size wr ((wr.alloc (.cells #[.int .i64 y.good, .int .i64 y.want, .int .i64 y.got, .int .i64 y.back] 44)).alloc (.cells #[.int .u8 (byteOf y.good), .int .u8 (byteOf y.want), .int .u8 (byteOf y.got), .int .u8 (byteOf y.back)] 5)) := ((Below.refl _ _).alloc (Nat.le_refl _) _).alloc (by simp) _
                have hA4 := ((Own.lit (enc := cByte) (size := 1) (base := wr.heap.size) (wr.alloc (.cells #[.int .i64 y.good, .int .i64 y.want, .int .i64 y.got, .int .i64 y.back] 44)) 5 #[.int .u8 (byteOf y.good), .int .u8 (byteOf y.want), .int .u8 (byteOf y.got), .int .u8 (byteOf y.back)] [byteOf y.good, byteOf y.want, byteOf y.got, byteOf y.back] (by simp) (by simp) (fun _ => rfl) rfl).sl (by simp)).at_
                simp only [World.size_alloc] at hA4
                have hA4' := Lib.hid hA4
                have hbs := hBr.size
                clear hy hA4
                go_wp2_with (at_builtin; refine Hid.out ?_)
                unfold Hid
                refine (wpList_all _ rfl (.tmp 104) (.tmp 117) 115 5 rfl w.heap.size _ 1 1 Tryz.underlying115 infoByte rfl (by decide) (by decide) (.slice A1 n1 c1) (wrote x k) [byteOf y.good, byteOf y.want, byteOf y.got, byteOf y.back] rfl ((hO'.out.alloc _).alloc _) (some ⟨wr.heap.size + 1, 0, none⟩) 4 _ rfl (fun _ => rfl) hA4'.out (fun y => one_byte y) (by simp only [List.length_cons, List.length_nil]; omega) (by simp only [World.size_alloc]; omega) (fun v9 w9 ho9 hg9 hv9 hb9 => ?_))
                have hO9 := Lib.hid (show Own cByte 1 5 w9 w.heap.size v9 (wrote x (k + 1)) by rw [hws.out]; exact ho9)
                have hbx9 := Lib.hid ((hbx'.out.below hb2 lx).grown hg9 (by
                  rcases Own.notBox (hO'.out.below hb2) (hbx'.out.below hb2 lx) (by decide) with hn | hn
                  · rw [hn]; intro he; cases he
                  · exact fun he => hn he.symm))
                have hB9 := (hBr.trans (hb2.mono hBr.size)).trans hb9
                clear ho9 hg9 hv9 hb9 hb2 hO' hbx' f0 f1 f2 f3 okl ll x5 lx w0 w1 w2 w3 hws hA4'
                go_wp2_with fail
                go_roundw
                case rel => exact ⟨k + 1, by omega, by go_num, hO9.out, hbx9.out, hB9⟩
                case measure => simp [RowKit.intOf]; omega
              · obtain rfl : k = x.lines.length := by omega
                have hconv := conv_bytes hO'.out (wrote_lt x _) (by unfold wrote; simp)
                go_wp2_with fail
                exact bodyPost_ret (v := .tuple #[.string (bstr (wrote x x.lines.length)), .int .i64 0]) (by simp [results, Tryz.results29, go_sem]) rfl ⟨by rw [hfin.out], hBr⟩
end Wh
namespace Wh
open Go Go.RowKit Go.Shelf Go.Proofs
attribute [local go_sem] run_indexAt_letter evL_tmp evL_const evL_func

theorem bstr_size (l : List Nat) : (bstr l).size = l.length := by simp [bstr, ByteArray.size]
theorem bstr_tail (n : Nat) (r : List Nat) : (bstr (n :: r)).extract 1 (r.length + 1) = bstr r := by
  unfold bstr
  rw [ByteArray.extract_mk]
  have h : ((n :: r).map UInt8.ofNat).drop 1 = r.map UInt8.ofNat := rfl
  rw [h, List.take_of_length_le (by simp)]
theorem bstr_list (l : List Nat) : (bstr l).toList = l.map UInt8.ofNat := by
  rw [ByteArray.toList_eq]
  simp [bstr]
theorem bstr_get (n : Nat) (r : List Nat) (hn : n < 256) (h : 0 < (bstr (n :: r)).size) : (((bstr (n :: r))[0]'h).toNat : Int) = n := by
  have e : (bstr (n :: r))[0]'h = UInt8.ofNat n := rfl
  rw [e]
  simp
  omega

set_option maxHeartbeats 2000000 in
theorem lgNum (w : World) {gb n : Nat} {r : List Nat} (hg : Blk w gb 176 [.string (bstr (n :: r))]) (hn : n < 256) :
    Calls Tryz.prog 146 #[.pointer (some ⟨gb, 0, none⟩)] w fun e w' => e = .returned (.int .i64 n) ∧ Blk w' gb 176 [.string (bstr r)] ∧ w.grownBy w' (some gb) := by
  have c0 := hg.cell (j := 0) rfl
  have f0 := hg.frozen 0
  have hsz := bstr_size (n :: r)
  have hne : (bstr (n :: r)).toList.isEmpty = false := by rw [bstr_list]; rfl
  have htl := bstr_tail n r
  have hg' := Lib.hid hg
  clear hg
  go_enter Tryz.func146, Tryz.ntmps146
  go_wp2_with fail
  go_ret
  obtain ⟨h1, h2⟩ := set_row hg'.out 0 (.string (bstr r))
  refine ⟨?_, h1, h2⟩
  rw [bstr_get n r hn]
  have : wrap64 (n : Int) = n := by unfold wrap64; omega
  rw [this]
  rfl

theorem lgNumShort (w : World) {gb : Nat} (hg : Blk w gb 176 [.string (bstr [])]) :
    Calls Tryz.prog 146 #[.pointer (some ⟨gb, 0, none⟩)] w fun e w' => e = .panicked [{ v := .iface 181 (.agg #[]), recovered := false }] ∧ w = w' := by
  have c0 := hg.cell (j := 0) rfl
  have hne : (bstr []).toList.isEmpty = true := by rw [bstr_list]; rfl
  go_enter Tryz.func146, Tryz.ntmps146
  go_wp2_with fail
  exact ⟨rfl, rfl, rfl⟩

/-- What is thrown where a text ends too early. -/
def shortP : List PanicEntry := [{ v := .iface 181 (.agg #[]), recovered := false }]
def IntoPost (w : World) (gb tb m : Nat) (T : TypeId) (l : List Nat) (cs : List Value) (e : Ending) (w' : World) : Prop :=
  Step (fun j => j = gb ∨ j = tb) w w' ∧ ((m ≤ l.length ∧ e = .returned (.tuple #[]) ∧ Blk w' gb 176 [.string (bstr (l.drop m))] ∧ Blk w' tb T ((l.take m).map (fun n : Nat => Value.int .i64 n) ++ cs.drop m)) ∨
    (l.length < m ∧ e = .panicked shortP ∧ ∃ cs', cs'.length = cs.length ∧ Blk w' tb T cs'))
theorem into_set {l : List Nat} {cs : List Value} {k : Nat} (hk : k < l.length) (hc : k < cs.length) : ((l.take k).map (fun n : Nat => Value.int .i64 n) ++ cs.drop k).set k (.int .i64 (l[k] : Nat)) = (l.take (k + 1)).map (fun n : Nat => Value.int .i64 n) ++ cs.drop (k + 1) := by
  have e1 : ((l.take k).map (fun n : Nat => Value.int .i64 n)).length = k := by rw [List.length_map, List.length_take]; omega
  have h := List.set_append_right (s := (l.take k).map (fun n : Nat => Value.int .i64 n)) (t := cs.drop k) k (.int .i64 (l[k] : Nat)) (by rw [e1]; exact Nat.le_refl _)
  rw [h, e1, Nat.sub_self, List.drop_eq_getElem_cons hc, List.set_cons_zero, take_snoc hk, List.map_append, List.append_assoc]
  rfl

set_option maxHeartbeats 4000000 in
theorem lgInto (w : World) {gb tb lb m : Nat} {T : TypeId} {l : List Nat} {cs : List Value} (hg : Blk w gb 176 [.string (bstr l)]) (ht : Blk w tb T cs) (hT : T ≠ 176) (hT2 : T ≠ 178)
    (hl : Blk w lb 178 ((List.range m).map fun i => Value.pointer (some ⟨tb, i, none⟩))) (hm : m ≤ cs.length) (hm8 : m ≤ 8) (hb : ∀ n ∈ l, n < 256) :
    Calls Tryz.prog 145 #[.pointer (some ⟨gb, 0, none⟩), .slice (some ⟨lb, 0, none⟩) m m] w (IntoPost w gb tb m T l cs) := by
  have hg' := Lib.hid hg
  have ht' := Lib.hid ht
  have hl' := Lib.hid hl
  have hb' := Lib.hid hb
  have n1 : tb ≠ gb := ht.ne hg hT
  have n2 : lb ≠ gb := hl.ne hg (by decide)
  have n3 : lb ≠ tb := hl.ne ht (Ne.symm hT2)
  clear hg ht hl hb
  go_enter Tryz.func145, Tryz.ntmps145
  go_wp2_with fail
  go_loopw [8, 5] (fun i _ wr => ∃ k : Nat, k ≤ m ∧ k ≤ l.length ∧ i = .int .i64 k ∧ Blk wr gb 176 [.string (bstr (l.drop k))] ∧ Blk wr tb T ((l.take k).map (fun n : Nat => Value.int .i64 n) ++ cs.drop k) ∧ Step (fun j => j = gb ∨ j = tb) w wr) (fun i _ _ => m - (RowKit.intOf i).toNat)
  case atStart => exact ⟨0, Nat.zero_le _, Nat.zero_le _, rfl, hg'.out, by simpa using ht'.out, Step.refl _ _⟩
  case round =>
    obtain ⟨k, hk, hkl, rfl, hg, ht, hst⟩ := hrel
    have hgr := Lib.hid hg
    have htr := Lib.hid ht
    have hst' := Lib.hid hst
    clear hg ht hst
    by_cases hlt : k < m
    · have hki : (k : Int) < (m : Int) := by omega
      have hcl : wr.cell? ⟨lb, k, none⟩ = some (.pointer (some ⟨tb, k, none⟩)) := (hst'.out.blk hl'.out (by omega)).cell (j := k) (by rw [List.getElem?_map, List.getElem?_range hlt]; rfl)
      have ll := (hst'.out.blk hl'.out (show ¬ (lb = gb ∨ lb = tb) by omega)).lt
      by_cases hlen : k < l.length
      · have hdr : l.drop k = l[k] :: l.drop (k + 1) := List.drop_eq_getElem_cons hlen
        have hn := hb'.out _ (List.getElem_mem hlen)
        have hset := Lib.hid (into_set hlen (show k < cs.length by omega))
        obtain ⟨n, hnn⟩ : ∃ n, l[k] = n := ⟨_, rfl⟩
        rw [hnn] at hdr hn hset
        have hgr2 := Lib.hid (show Blk wr gb 176 [.string (bstr (n :: l.drop (k + 1)))] by rw [← hdr]; exact hgr.out)
        clear hdr hgr hnn
        go_wp2_with fail
        refine (lgNum wr hgr2.out hn).mono ?_
        rintro e W1 ⟨rfl, hg1, hgn⟩
        have ht1 := Lib.hid (htr.out.grown hgn (by intro he; injection he with he; exact n1 he))
        have hg1' := Lib.hid hg1
        have hst1 := Lib.hid (hst'.out.trans (Step.of_grown (ks := fun j => j = gb ∨ j = tb) hgn (fun q hq => by injection hq with hq; exact .inl hq.symm)))
        have c1 : ∃ u, W1.cell? ⟨tb, k, none⟩ = some u := ⟨_, ht1.out.cell (j := k) (List.getElem?_eq_getElem (by rw [List.length_append, List.length_map, List.length_take, List.length_drop]; omega))⟩
        obtain ⟨u, c1⟩ := c1
        clear hg1 hgn htr hst' hgr2 hcl
        go_wp2_with (refine wpList_store_int rfl (.tmp 15) (.tmp 14) rfl rfl tb k u n rfl rfl c1 (ht1.out.frozen _) (fun w3 hw3 => ?_); refine Hid.out ?_)
        unfold Hid
        obtain ⟨ht3, hg3⟩ := set_row ht1.out k (.int .i64 n)
        rw [hset.out, hw3] at ht3
        rw [hw3] at hg3
        have ht3' := Lib.hid ht3
        have hg3' := Lib.hid (hg1'.out.grown hg3 (by intro he; injection he with he; exact n1 he.symm))
        have hst3 := Lib.hid (hst1.out.trans (Step.of_grown (ks := fun j => j = gb ∨ j = tb) hg3 (fun q hq => by injection hq with hq; exact .inr hq.symm)))
        clear ht3 hg3 hw3 ht1 hg1' hst1 c1
        go_wp2_with fail
        go_roundw
        case rel => exact ⟨k + 1, by omega, by omega, by go_num, hg3'.out, ht3'.out, hst3.out⟩
        case measure => simp [RowKit.intOf]; omega
      · have hdr : l.drop k = [] := List.drop_eq_nil_of_le (by omega)
        have hgr2 := Lib.hid (show Blk wr gb 176 [.string (bstr [])] by rw [← hdr]; exact hgr.out)
        clear hgr hdr
        go_wp2_with fail
        refine (lgNumShort wr hgr2.out).mono ?_
        rintro e W1 ⟨rfl, rfl⟩
        go_wp2_with fail
        exact ⟨rfl, hst'.out, .inr ⟨by omega, rfl, _, by rw [List.length_append, List.length_map, List.length_take, List.length_drop]; omega, htr.out⟩⟩
    · obtain rfl : k = m := by omega
      go_wp2_with fail
      go_end0
      exact ⟨hst'.out, .inl ⟨hkl, rfl, hgr.out, htr.out⟩⟩
end Wh
namespace Wh
open Go Go.RowKit Go.Shelf Go.Proofs
attribute [local go_sem] run_indexAt_letter evL_tmp evL_const evL_func

def zAct : List Value := [.int .i64 0, .int .i64 0, .int .i64 0, .int .i64 0, .int .i64 0, .slice none 0 0]
set_option maxHeartbeats 4000000 in
theorem rdCaught (w : World) {sb xb rb ib : Nat} {s : ByteArray} {cx : List Value} {r0 i0 : Value} (hs : Blk w sb 9 [.string s]) (hx : Blk w xb 34 cx) (hcx : cx.length = 6) (hr : Blk w rb 9 [r0]) (hi : Blk w ib 4 [i0]) (u : TypeId) (pv : Value) (older : List PanicEntry) :
    CallsD Tryz.prog 144 #[.pointer (some ⟨sb, 0, none⟩), .pointer (some ⟨xb, 0, none⟩), .pointer (some ⟨rb, 0, none⟩), .pointer (some ⟨ib, 0, none⟩)] (.panicking ({ v := .iface u pv, recovered := false } :: older)) w fun e u' w' =>
      e = .returned (.tuple #[]) ∧ u' = .panicking ({ v := .iface u pv, recovered := true } :: older) ∧ Blk w' xb 34 zAct ∧ Blk w' rb 9 [.string s] ∧ Blk w' ib 4 [.bool false] ∧ Step (fun j => j = xb ∨ j = rb ∨ j = ib) w w' := by
  have cs0 := hs.cell (j := 0) rfl
  refine callsD_of_wpS Tryz.func144 rfl fun c₀ cs hu => ?_
  apply wpS_seq
  apply wpS_region
  simp [wpOpsS, go_sem, recoverD, hu, Tryz.ntmps144, Exit.thenS]
  refine wpS_cond (t := true) (by simp [Act.eval, Array.replicate]) ?_
  simp only [if_true]
  refine wpS_of_wp ?_
  go_wp2_with (refine wpList_store_row rfl 34 (.tmp 1) (.tmp 6) rfl xb zAct.toArray rfl rfl 34 cx.toArray hx (by kernel_rfl) (by simp [hcx, zAct]) (by simp [zAct, Value.oneCell']) ?_; refine Hid.out ?_)
  unfold Hid
  have n1 : rb ≠ xb := hr.ne hx (by decide)
  have n2 : ib ≠ xb := hi.ne hx (by decide)
  have n3 : ib ≠ rb := hi.ne hr (by decide)
  have hx1 := Lib.hid (hx.row zAct)
  have hr1 := Lib.hid (hr.other n1 zAct.toArray)
  have hi1 := Lib.hid (hi.other n2 zAct.toArray)
  have hst1 := Lib.hid (Step.of_grown (ks := fun j => j = xb ∨ j = rb ∨ j = ib) (grown_row w xb zAct.toArray) (fun q hq => by injection hq with hq; exact .inl hq.symm))
  generalize w.setRow xb zAct.toArray = w1 at hx1 hr1 hi1 hst1 ⊢
  clear hs hx hcx hr hi cs0 n1 n2
  have d1 := hr1.out.cell (j := 0) rfl
  have f1 := hr1.out.frozen 0
  have d2 := hi1.out.cell (j := 0) rfl
  have f2 := hi1.out.frozen 0
  go_wp2_with fail
  obtain ⟨hr2, hg2⟩ := set_row hr1.out 0 (.string s)
  have hx2 := hx1.out.grown hg2 (by intro he; injection he with he; exact (hx1.out.ne hr1.out (by decide)) he)
  have hi2 := hi1.out.grown hg2 (by intro he; injection he with he; exact n3 he)
  obtain ⟨hi3, hg3⟩ := set_row hi2 0 (.bool false)
  have hr3 := hr2.grown hg3 (by intro he; injection he with he; exact n3 he.symm)
  have hx3 := hx2.grown hg3 (by intro he; injection he with he; exact (hx2.ne hi2 (by decide)) he)
  have hst3 := (hst1.out.trans (Step.of_grown (ks := fun j => j = xb ∨ j = rb ∨ j = ib) hg2 (fun q hq => by injection hq with hq; exact .inr (.inl hq.symm)))).trans (Step.of_grown (ks := fun j => j = xb ∨ j = rb ∨ j = ib) hg3 (fun q hq => by injection hq with hq; exact .inr (.inr hq.symm)))
  exact ⟨rfl, _, rfl, _, results_none rfl _ _ _, rfl, rfl, hx3, hr3, hi3, hst3⟩

theorem rdIdle (w : World) (sb xb rb ib : Nat) : CallsD Tryz.prog 144 #[.pointer (some ⟨sb, 0, none⟩), .pointer (some ⟨xb, 0, none⟩), .pointer (some ⟨rb, 0, none⟩), .pointer (some ⟨ib, 0, none⟩)] .returning w fun e u' w' => e = .returned (.tuple #[]) ∧ u' = .returning ∧ w = w' := by
  refine callsD_of_wpS Tryz.func144 rfl fun c₀ cs hu => ?_
  apply wpS_seq
  apply wpS_region
  simp [wpOpsS, go_sem, recoverD, hu, Tryz.ntmps144, Exit.thenS]
  refine wpS_cond (t := false) (by simp [Act.eval, Array.replicate]) ?_
  simp only [Bool.false_eq_true, if_false]
  refine wpS_of_wp (wp_skip ?_)
  cases c₀
  simp_all [bodyPostS, results, Tryz.results144]
end Wh
