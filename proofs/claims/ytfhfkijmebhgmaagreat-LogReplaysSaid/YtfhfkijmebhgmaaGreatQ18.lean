/- Texts of the claim, joined: LogC, LogD, Deed, LogE. -/
import Derived.Deep.RegionLaw
import Derived.Laws.IdiomStrings
import Derived.Test.YtfhfkijmebhgmaaGreatQ14
import Derived.Test.YtfhfkijmebhgmaaGreatQ17
import Derived.Test.YtfhfkijmebhgmaaGreatQ03
namespace Wh
open Go Go.RowKit Go.Shelf Go.Proofs
attribute [local go_sem] run_indexAt_letter evL_tmp evL_const evL_func

/-- One element more, of a row as long as memory lets it be. -/
theorem wpList_pushW {P : Program} (w : World) {α : Type} {enc : α → List Value} {ops : Array Oper} {rest : List Oper} {o : Oper} {a : Act} {Q : Exit → Act → World → Prop} (hgd : o.guard = none) (s x : Operand) (t e : TypeId)
    (ho : o.op = .call { callee := .builtin .append, args := #[s, x], argTypes := #[t, t] }) (base : Nat) (z : Value) (size bytes : Nat) (ht : P.underlying t = some (.slice e)) (hi : Elem P e z size bytes)
    (hzs : z.cells.size = size) (hsz : 0 < size) (v : Value) (l : List α) (y : α) (hs : a.eval s = v) (hown : Own enc size e w base v l)
    (ad : Addr) (c : Nat) (hx : a.eval x = .slice (some ad) 1 c) (hl : (enc y).length = size) (hnews : ∀ j u, (enc y)[j]? = some u → w.cell? (ad.add j) = some u) (h1 : ∀ u ∈ enc y, u.oneCell' = true)
    (hn : (l.length + 1) * bytes ≤ 140737488355328) (hn2 : l.length + 1 ≤ 140737488355328) (hbase : base ≤ w.heap.size)
    (h : ∀ v' w', Own enc size e w' base v' (l ++ [y]) → w.grownBy w' v.ownBlock → (v'.ownBlock = v.ownBlock ∨ v'.ownBlock = some w.heap.size) → Below base w w' → wpList P ops Q rest (a.put o.dst v') w') :
    wpList P ops Q (o :: rest) a w := by
  obtain ⟨i, hi, hz, hsize, hbytes⟩ := hi
  refine wpList_append_own_at w hgd s x t ho base e i z size bytes ht hi hz hsize hbytes hzs hsz v l.length _ hs hown ad 1 c (enc y) hx (by rw [hl, Nat.one_mul]) hnews h1 (by unfold maxLen; omega) hn hbase ?_
  intro v' w' h2 h3 _ h5
  refine h v' w' ?_ h3 h5 ((Below.refl _ _).grown h3 hbase fun k hk => (World.ownsRow.lt hown k hk).1)
  unfold Own
  rw [List.length_append, List.flatMap_append]
  simpa using h2

def cByte (n : Nat) : List Value := [.int .u8 n]
theorem one_byte (n : Nat) : ∀ u ∈ cByte n, u.oneCell' = true := by simp [cByte, Value.oneCell']
theorem infoByte : Elem Tryz.prog 5 (.int .u8 0) 1 1 := elem_of (by kernel_rfl)
/-- What byte(n) is. -/
def byteOf (n : Int) : Nat := (IntKind.u8.wrap n).toNat
theorem byteOf_wrap (n : Int) : IntKind.u8.wrap n = (byteOf n : Int) := by
  unfold byteOf
  rw [IntKind.wrap_u8]
  omega
theorem byteOf_id {n : Int} (h : isByte n = true) : byteOf n = n.toNat := by
  rw [isByte_iff] at h
  unfold byteOf
  rw [IntKind.wrap_u8]
  omega
/-- The pen in its box. -/
def PenV (w : World) (base pb : Nat) (v : Value) (bad : Bool) (bs : List Nat) : Prop := Blk w pb 117 [v, .bool bad] ∧ Own cByte 1 5 w base v bs
theorem PenV.below {w w' : World} {base pb : Nat} {v : Value} {bad : Bool} {bs : List Nat} (h : PenV w base pb v bad bs) (hb : Below w.heap.size w w') : PenV w' base pb v bad bs :=
  ⟨h.1.below hb h.1.lt, h.2.below hb⟩
theorem PenV.drew {w : World} {base pb : Nat} {v : Value} {bad : Bool} {bs : List Nat} (h : PenV w base pb v bad bs) : PenV w.drew base pb v bad bs := h.below (Below.refl _ _).drew
theorem PenV.alloc {w : World} {base pb : Nat} {v : Value} {bad : Bool} {bs : List Nat} (h : PenV w base pb v bad bs) (o : Obj) : PenV (w.alloc o) base pb v bad bs := h.below ((Below.refl _ _).alloc (Nat.le_refl _) _)
/-- Bytes behind. -/
theorem PenV.push {w w' : World} {base pb : Nat} {v v' : Value} {bad : Bool} {bs bs' : List Nat} (h : PenV w base pb v bad bs) (hg : w.grownBy w' v.ownBlock) (ho : Own cByte 1 5 w' base v' bs') : PenV (w'.setCell ⟨pb, 0, none⟩ v') base pb v' bad bs' ∧ w'.grownBy (w'.setCell ⟨pb, 0, none⟩ v') (some pb) := by
  have hb : Blk w' pb 117 [v, .bool bad] := h.1.grown hg (by
    rcases Own.notBox h.2 h.1 (by decide) with hn | hn
    · rw [hn]; intro he; cases he
    · exact fun he => hn he.symm)
  obtain ⟨h1, h2⟩ := set_row hb 0 v'
  exact ⟨⟨h1, ho.kept h2 (Own.notBox ho hb (by decide))⟩, h2⟩
theorem PenV.mark {w : World} {base pb : Nat} {v : Value} {bad : Bool} {bs : List Nat} (h : PenV w base pb v bad bs) (c : Bool) : PenV (w.setCell ⟨pb, 1, none⟩ (.bool c)) base pb v c bs ∧ w.grownBy (w.setCell ⟨pb, 1, none⟩ (.bool c)) (some pb) := by
  obtain ⟨h1, h2⟩ := set_row h.1 1 (.bool c)
  exact ⟨⟨h1, h.2.kept h2 (Own.notBox h.2 h.1 (by decide))⟩, h2⟩
end Wh
namespace Wh
open Go Go.RowKit Go.Shelf Go.Proofs
attribute [local go_sem] run_indexAt_letter evL_tmp evL_const evL_func

section
variable {ops : Array Oper} {rest : List Oper} {o : Oper} {a : Act} {w : World} {Q : Exit → Act → World → Prop} {base pb : Nat} {v : Value} {bad : Bool} {bs : List Nat}
theorem wp_st_bad (hgd : o.guard = none) (x y : Operand) (ho : o.op = .store 4 x y) (hn : o.dst = none) {c : Bool} (hP : PenV w base pb v bad bs) (hx : a.eval x = .pointer (some ⟨pb, 1, none⟩)) (hy : a.eval y = .bool c)
    (h : ∀ w', PenV w' base pb v c bs → w.grownBy w' (some pb) → wpList Tryz.prog ops Q rest a w') : wpList Tryz.prog ops Q (o :: rest) a w :=
  wpList_plain hgd fun K hK => by
    obtain ⟨h1, h2⟩ := hP.mark c
    have h3 := h _ h1 h2
    have hc := hP.1.cell (j := 1) rfl
    have hf := hP.1.frozen 1
    clear h hP h1 h2
    unfold Oper.wp
    simp only [execOp, ho, hx, hy]
    go_simp
    exact hK _ _ h3
theorem wp_st_pen (hgd : o.guard = none) (x y : Operand) (ho : o.op = .store 115 x y) (hn : o.dst = none) {w0 : World} {A : Option Addr} {n c : Nat} {bs' : List Nat} (hP : PenV w0 base pb v bad bs) (hg : w0.grownBy w v.ownBlock) (hO : Own cByte 1 5 w base (.slice A n c) bs')
    (hx : a.eval x = .pointer (some ⟨pb, 0, none⟩)) (hy : a.eval y = .slice A n c)
    (h : ∀ w', PenV w' base pb (.slice A n c) bad bs' → w.grownBy w' (some pb) → wpList Tryz.prog ops Q rest a w') : wpList Tryz.prog ops Q (o :: rest) a w :=
  wpList_plain hgd fun K hK => by
    obtain ⟨h1, h2⟩ := hP.push hg hO
    have h3 := h _ h1 h2
    have hb : Blk w pb 117 [v, .bool bad] := hP.1.grown hg (by
      rcases Own.notBox hP.2 hP.1 (by decide) with hn | hn
      · rw [hn]; intro he; cases he
      · exact fun he => hn he.symm)
    have hc := hb.cell (j := 0) rfl
    have hf := hb.frozen 0
    clear h hP h1 h2 hg hO hb
    unfold Oper.wp
    simp only [execOp, ho, hx, hy]
    go_simp
    exact hK _ _ h3
end
theorem put_bad {l : List Int} {k : Nat} (h : k < l.length) (bad : Bool) : (bad || !((l.take (k + 1)).all isByte)) = ((bad || !((l.take k).all isByte)) || !isByte l[k]) := by
  rw [take_snoc h, List.all_append]
  cases bad <;> cases (l.take k).all isByte <;> cases h2 : isByte l[k] <;> simp [h2]
theorem isByte_false {n : Int} : isByte n = false ↔ n < 0 ∨ 255 < n := by
  rw [Bool.eq_false_iff, Ne, isByte_iff]
  omega

set_option maxHeartbeats 8000000 in
set_option maxRecDepth 100000 in
theorem lgPut (w : World) {base pb lb : Nat} {v : Value} {bad : Bool} {bs : List Nat} {l : List Int} (hP : PenV w base pb v bad bs) (hbase : base ≤ w.heap.size) (hl : Blk w lb 3 (l.map (Value.int .i64))) (hn : l.length ≤ 8) (hbn : bs.length ≤ 70368744177664) :
    Calls Tryz.prog 84 #[.pointer (some ⟨pb, 0, none⟩), .slice (some ⟨lb, 0, none⟩) l.length l.length] w fun e w' => e = .returned (.tuple #[]) ∧ ∃ v', PenV w' base pb v' (bad || !(l.all isByte)) (bs ++ l.map byteOf) ∧
      (∀ k, v'.ownBlock = some k → v.ownBlock = some k ∨ w.heap.size ≤ k) ∧ Step (fun j => j = pb ∨ v.ownBlock = some j) w w' := by
  have hP' := Lib.hid hP
  have hl' := Lib.hid hl
  have hll := hl.lt
  clear hP hl
  go_enter Tryz.func84, Tryz.ntmps84
  go_wp2_with fail
  go_loopw [8, 5] (fun i _ wr => ∃ (k : Nat) (v' : Value), k ≤ l.length ∧ i = .int .i64 k ∧ PenV wr base pb v' (bad || !((l.take k).all isByte)) (bs ++ (l.take k).map byteOf) ∧ (∀ q, v'.ownBlock = some q → v.ownBlock = some q ∨ w.heap.size ≤ q) ∧ Step (fun j => j = pb ∨ v.ownBlock = some j) w wr) (fun i _ _ => l.length - (RowKit.intOf i).toNat)
  case atStart => exact ⟨0, v, Nat.zero_le _, rfl, by simpa using hP'.out, fun q hq => .inl hq, Step.refl _ _⟩
  case round =>
    obtain ⟨k, v', hk, rfl, hP, hvb, hst⟩ := hrel
    have hvb' := Lib.hid hvb
    have hst' := Lib.hid hst
    clear hvb hst
    have hszr := hst'.out.size
    by_cases hlt : k < l.length
    · have hki : (k : Int) < (l.length : Int) := by omega
      have hblr := hst'.out.blk hl'.out (fun hh => by
        rcases hh with rfl | hh
        · exact (hl'.out.ne hP'.out.1 (by decide)) rfl
        · rcases Own.notBox hP'.out.2 hl'.out (by decide) with h | h
          · rw [h] at hh; cases hh
          · exact h hh)
      obtain ⟨x, hx⟩ : ∃ x, l[k] = x := ⟨_, rfl⟩
      have hcx : wr.cell? ⟨lb, k, none⟩ = some (.int .i64 x) := hblr.cell (j := k) (by rw [List.getElem?_map, List.getElem?_eq_getElem hlt, hx]; rfl)
      have hx' := Lib.hid hx
      have hwx := byteOf_wrap x
      obtain ⟨bo, hbo⟩ : ∃ bo, (bad || !((l.take k).all isByte)) = bo := ⟨_, rfl⟩
      obtain ⟨bs1, hbs1⟩ : ∃ bs1, bs ++ (l.take k).map byteOf = bs1 := ⟨_, rfl⟩
      rw [hbo, hbs1] at hP
      have hlen : bs1.length + 1 ≤ 140737488355328 := by
        rw [← hbs1, List.length_append, List.length_map, List.length_take]
        omega
      have hPr := Lib.hid hP
      have c0 := hP.1.cell (j := 0) rfl
      have c1 := hP.1.cell (j := 1) rfl
      have lpb := hP.1.lt
      have llb := hblr.lt
      have hbo' := Lib.hid hbo
      have hbs' := Lib.hid hbs1
      clear hP hblr hbo hbs1 hx
      cases bo
      · by_cases h1 : x < 0
        · have t1 := decide_eq_true h1
          have hY : isByte l[k] = false := by rw [hx'.out]; exact isByte_false.2 (.inl h1)
          clear h1
          have hR : (bad || !((l.take (k + 1)).all isByte)) = true := by rw [put_bad hlt, hbo'.out]; simp [hY]
          have hR' := Lib.hid hR
          clear hR hY
          go_wp2_with (refine wp_st_bad rfl (.tmp 26) (.tmp 24) rfl rfl (c := true) hPr.out rfl rfl (fun w2 hP2 hg2 => ?_); refine Hid.out ?_)
          unfold Hid
          have hP2' := Lib.hid hP2
          have c0 := hP2.1.cell (j := 0) rfl
          have lp2 := hP2.1.lt
          have hsz2 := hg2.size
          have hst2 := Lib.hid (hst'.out.trans (Step.of_grown (ks := fun j => j = pb ∨ v.ownBlock = some j) hg2 (fun q hq => .inl (by injection hq with hq; exact hq.symm))))
          clear hP2 hg2 c1 hcx lpb
          go_wp2_with (refine wpList_pushW _ rfl (.tmp 31) (.tmp 34) 115 5 rfl base _ 1 1 Tryz.underlying115 infoByte rfl (by decide) v' bs1 (byteOf x) rfl (hP2'.out.2.alloc _) ⟨w2.heap.size, 0, none⟩ 1 rfl rfl (cells_new _ _ _) (one_byte _) (by rw [Nat.mul_one]; exact hlen) hlen (by rw [World.size_alloc]; omega) (fun v9 w9 ho9 hg9 hv9 hb9 => ?_); refine Hid.out ?_)
          unfold Hid
          obtain ⟨A9, c9, rfl⟩ := ho9.isSlice
          have ho9' := Lib.hid ho9
          have hg9' := Lib.hid hg9
          have hPa := Lib.hid (hP2'.out.alloc (.cells #[.int .u8 (byteOf x)] 5))
          clear ho9 hg9 c0
          go_wp2_with (refine wp_st_pen rfl (.tmp 37) (.tmp 35) rfl rfl hPa.out hg9'.out ho9'.out rfl rfl (fun w10 hP10 hg10 => ?_); refine Hid.out ?_)
          unfold Hid
          have hP10' := Lib.hid (show PenV w10 base pb _ (bad || !((l.take (k + 1)).all isByte)) (bs ++ (l.take (k + 1)).map byteOf) by rw [hR'.out, take_snoc hlt, List.map_append, ← List.append_assoc, hbs'.out, List.map_cons, List.map_nil, hx'.out]; exact hP10)
          have hst10 := Lib.hid (((hst2.out.trans (Step.of_below ((Below.refl _ _).alloc (Nat.le_refl _) (.cells #[.int .u8 (byteOf x)] 5)))).trans' (Step.of_grown (ks := fun q => v'.ownBlock = some q) hg9'.out (fun q hq => hq)) (fun q hq h => .inr ((hvb'.out q h).resolve_right (by omega)))).trans (Step.of_grown (ks := fun j => j = pb ∨ v.ownBlock = some j) hg10 (fun q hq => .inl (by injection hq with hq; exact hq.symm))))
          have hvb9 := Lib.hid (show ∀ q, (Value.slice A9 (bs1 ++ [byteOf x]).length c9).ownBlock = some q → v.ownBlock = some q ∨ w.heap.size ≤ q from fun q hq => by
            rcases hv9 with h | h
            · exact hvb'.out q (by rw [← h]; exact hq)
            · rw [h, World.size_alloc] at hq
              injection hq with hq
              have := hst2.out.size
              exact .inr (by omega))
          clear hP10 hg10 hv9 hb9 ho9' hg9' hPa hP2' hst2 hPr hvb' hst'
          go_wp2_with fail
          go_roundw
          case rel => exact ⟨k + 1, _, by omega, by go_num, hP10'.out, hvb9.out, hst10.out⟩
          case measure => simp [RowKit.intOf]; omega
        · have t1 := decide_eq_false h1
          by_cases h2 : 255 < x
          · have t2 := decide_eq_true h2
            have hY : isByte l[k] = false := by rw [hx'.out]; exact isByte_false.2 (.inr h2)
            clear h1 h2
            have hR : (bad || !((l.take (k + 1)).all isByte)) = true := by rw [put_bad hlt, hbo'.out]; simp [hY]
            have hR' := Lib.hid hR
            clear hR hY
            go_wp2_with (refine wp_st_bad rfl (.tmp 26) (.tmp 24) rfl rfl (c := true) hPr.out rfl rfl (fun w2 hP2 hg2 => ?_); refine Hid.out ?_)
            unfold Hid
            have hP2' := Lib.hid hP2
            have c0 := hP2.1.cell (j := 0) rfl
            have lp2 := hP2.1.lt
            have hsz2 := hg2.size
            have hst2 := Lib.hid (hst'.out.trans (Step.of_grown (ks := fun j => j = pb ∨ v.ownBlock = some j) hg2 (fun q hq => .inl (by injection hq with hq; exact hq.symm))))
            clear hP2 hg2 c1 hcx lpb
            go_wp2_with (refine wpList_pushW _ rfl (.tmp 31) (.tmp 34) 115 5 rfl base _ 1 1 Tryz.underlying115 infoByte rfl (by decide) v' bs1 (byteOf x) rfl (hP2'.out.2.alloc _) ⟨w2.heap.size, 0, none⟩ 1 rfl rfl (cells_new _ _ _) (one_byte _) (by rw [Nat.mul_one]; exact hlen) hlen (by rw [World.size_alloc]; omega) (fun v9 w9 ho9 hg9 hv9 hb9 => ?_); refine Hid.out ?_)
            unfold Hid
            obtain ⟨A9, c9, rfl⟩ := ho9.isSlice
            have ho9' := Lib.hid ho9
            have hg9' := Lib.hid hg9
            have hPa := Lib.hid (hP2'.out.alloc (.cells #[.int .u8 (byteOf x)] 5))
            clear ho9 hg9 c0
            go_wp2_with (refine wp_st_pen rfl (.tmp 37) (.tmp 35) rfl rfl hPa.out hg9'.out ho9'.out rfl rfl (fun w10 hP10 hg10 => ?_); refine Hid.out ?_)
            unfold Hid
            have hP10' := Lib.hid (show PenV w10 base pb _ (bad || !((l.take (k + 1)).all isByte)) (bs ++ (l.take (k + 1)).map byteOf) by rw [hR'.out, take_snoc hlt, List.map_append, ← List.append_assoc, hbs'.out, List.map_cons, List.map_nil, hx'.out]; exact hP10)
            have hst10 := Lib.hid (((hst2.out.trans (Step.of_below ((Below.refl _ _).alloc (Nat.le_refl _) (.cells #[.int .u8 (byteOf x)] 5)))).trans' (Step.of_grown (ks := fun q => v'.ownBlock = some q) hg9'.out (fun q hq => hq)) (fun q hq h => .inr ((hvb'.out q h).resolve_right (by omega)))).trans (Step.of_grown (ks := fun j => j = pb ∨ v.ownBlock = some j) hg10 (fun q hq => .inl (by injection hq with hq; exact hq.symm))))
            have hvb9 := Lib.hid (show ∀ q, (Value.slice A9 (bs1 ++ [byteOf x]).length c9).ownBlock = some q → v.ownBlock = some q ∨ w.heap.size ≤ q from fun q hq => by
              rcases hv9 with h | h
              · exact hvb'.out q (by rw [← h]; exact hq)
              · rw [h, World.size_alloc] at hq
                injection hq with hq
                have := hst2.out.size
                exact .inr (by omega))
            clear hP10 hg10 hv9 hb9 ho9' hg9' hPa hP2' hst2 hPr hvb' hst'
            go_wp2_with fail
            go_roundw
            case rel => exact ⟨k + 1, _, by omega, by go_num, hP10'.out, hvb9.out, hst10.out⟩
            case measure => simp [RowKit.intOf]; omega
          · have t2 := decide_eq_false h2
            have hY : isByte l[k] = true := by rw [hx'.out]; exact isByte_iff.2 (by omega)
            clear h1 h2
            have hR : (bad || !((l.take (k + 1)).all isByte)) = false := by rw [put_bad hlt, hbo'.out]; simp [hY]
            have hR' := Lib.hid hR
            clear hR hY
            go_wp2_with (refine wp_st_bad rfl (.tmp 26) (.tmp 24) rfl rfl (c := false) hPr.out rfl rfl (fun w2 hP2 hg2 => ?_); refine Hid.out ?_)
            unfold Hid
            have hP2' := Lib.hid hP2
            have c0 := hP2.1.cell (j := 0) rfl
            have lp2 := hP2.1.lt
            have hsz2 := hg2.size
            have hst2 := Lib.hid (hst'.out.trans (Step.of_grown (ks := fun j => j = pb ∨ v.ownBlock = some j) hg2 (fun q hq => .inl (by injection hq with hq; exact hq.symm))))
            clear hP2 hg2 c1 hcx lpb
            go_wp2_with (refine wpList_pushW _ rfl (.tmp 31) (.tmp 34) 115 5 rfl base _ 1 1 Tryz.underlying115 infoByte rfl (by decide) v' bs1 (byteOf x) rfl (hP2'.out.2.alloc _) ⟨w2.heap.size, 0, none⟩ 1 rfl rfl (cells_new _ _ _) (one_byte _) (by rw [Nat.mul_one]; exact hlen) hlen (by rw [World.size_alloc]; omega) (fun v9 w9 ho9 hg9 hv9 hb9 => ?_); refine Hid.out ?_)
            unfold Hid
            obtain ⟨A9, c9, rfl⟩ := ho9.isSlice
            have ho9' := Lib.hid ho9
            have hg9' := Lib.hid hg9
            have hPa := Lib.hid (hP2'.out.alloc (.cells #[.int .u8 (byteOf x)] 5))
            clear ho9 hg9 c0
            go_wp2_with (refine wp_st_pen rfl (.tmp 37) (.tmp 35) rfl rfl hPa.out hg9'.out ho9'.out rfl rfl (fun w10 hP10 hg10 => ?_); refine Hid.out ?_)
            unfold Hid
            have hP10' := Lib.hid (show PenV w10 base pb _ (bad || !((l.take (k + 1)).all isByte)) (bs ++ (l.take (k + 1)).map byteOf) by rw [hR'.out, take_snoc hlt, List.map_append, ← List.append_assoc, hbs'.out, List.map_cons, List.map_nil, hx'.out]; exact hP10)
            have hst10 := Lib.hid (((hst2.out.trans (Step.of_below ((Below.refl _ _).alloc (Nat.le_refl _) (.cells #[.int .u8 (byteOf x)] 5)))).trans' (Step.of_grown (ks := fun q => v'.ownBlock = some q) hg9'.out (fun q hq => hq)) (fun q hq h => .inr ((hvb'.out q h).resolve_right (by omega)))).trans (Step.of_grown (ks := fun j => j = pb ∨ v.ownBlock = some j) hg10 (fun q hq => .inl (by injection hq with hq; exact hq.symm))))
            have hvb9 := Lib.hid (show ∀ q, (Value.slice A9 (bs1 ++ [byteOf x]).length c9).ownBlock = some q → v.ownBlock = some q ∨ w.heap.size ≤ q from fun q hq => by
              rcases hv9 with h | h
              · exact hvb'.out q (by rw [← h]; exact hq)
              · rw [h, World.size_alloc] at hq
                injection hq with hq
                have := hst2.out.size
                exact .inr (by omega))
            clear hP10 hg10 hv9 hb9 ho9' hg9' hPa hP2' hst2 hPr hvb' hst'
            go_wp2_with fail
            go_roundw
            case rel => exact ⟨k + 1, _, by omega, by go_num, hP10'.out, hvb9.out, hst10.out⟩
            case measure => simp [RowKit.intOf]; omega
      · have hY : True := trivial
        have hR : (bad || !((l.take (k + 1)).all isByte)) = true := by rw [put_bad hlt, hbo'.out]; simp [Bool.true_or]
        have hR' := Lib.hid hR
        clear hR hY
        go_wp2_with (refine wp_st_bad rfl (.tmp 26) (.tmp 24) rfl rfl (c := true) hPr.out rfl rfl (fun w2 hP2 hg2 => ?_); refine Hid.out ?_)
        unfold Hid
        have hP2' := Lib.hid hP2
        have c0 := hP2.1.cell (j := 0) rfl
        have lp2 := hP2.1.lt
        have hsz2 := hg2.size
        have hst2 := Lib.hid (hst'.out.trans (Step.of_grown (ks := fun j => j = pb ∨ v.ownBlock = some j) hg2 (fun q hq => .inl (by injection hq with hq; exact hq.symm))))
        clear hP2 hg2 c1 hcx lpb
        go_wp2_with (refine wpList_pushW _ rfl (.tmp 31) (.tmp 34) 115 5 rfl base _ 1 1 Tryz.underlying115 infoByte rfl (by decide) v' bs1 (byteOf x) rfl (hP2'.out.2.alloc _) ⟨w2.heap.size, 0, none⟩ 1 rfl rfl (cells_new _ _ _) (one_byte _) (by rw [Nat.mul_one]; exact hlen) hlen (by rw [World.size_alloc]; omega) (fun v9 w9 ho9 hg9 hv9 hb9 => ?_); refine Hid.out ?_)
        unfold Hid
        obtain ⟨A9, c9, rfl⟩ := ho9.isSlice
        have ho9' := Lib.hid ho9
        have hg9' := Lib.hid hg9
        have hPa := Lib.hid (hP2'.out.alloc (.cells #[.int .u8 (byteOf x)] 5))
        clear ho9 hg9 c0
        go_wp2_with (refine wp_st_pen rfl (.tmp 37) (.tmp 35) rfl rfl hPa.out hg9'.out ho9'.out rfl rfl (fun w10 hP10 hg10 => ?_); refine Hid.out ?_)
        unfold Hid
        have hP10' := Lib.hid (show PenV w10 base pb _ (bad || !((l.take (k + 1)).all isByte)) (bs ++ (l.take (k + 1)).map byteOf) by rw [hR'.out, take_snoc hlt, List.map_append, ← List.append_assoc, hbs'.out, List.map_cons, List.map_nil, hx'.out]; exact hP10)
        have hst10 := Lib.hid (((hst2.out.trans (Step.of_below ((Below.refl _ _).alloc (Nat.le_refl _) (.cells #[.int .u8 (byteOf x)] 5)))).trans' (Step.of_grown (ks := fun q => v'.ownBlock = some q) hg9'.out (fun q hq => hq)) (fun q hq h => .inr ((hvb'.out q h).resolve_right (by omega)))).trans (Step.of_grown (ks := fun j => j = pb ∨ v.ownBlock = some j) hg10 (fun q hq => .inl (by injection hq with hq; exact hq.symm))))
        have hvb9 := Lib.hid (show ∀ q, (Value.slice A9 (bs1 ++ [byteOf x]).length c9).ownBlock = some q → v.ownBlock = some q ∨ w.heap.size ≤ q from fun q hq => by
          rcases hv9 with h | h
          · exact hvb'.out q (by rw [← h]; exact hq)
          · rw [h, World.size_alloc] at hq
            injection hq with hq
            have := hst2.out.size
            exact .inr (by omega))
        clear hP10 hg10 hv9 hb9 ho9' hg9' hPa hP2' hst2 hPr hvb' hst'
        go_wp2_with fail
        go_roundw
        case rel => exact ⟨k + 1, _, by omega, by go_num, hP10'.out, hvb9.out, hst10.out⟩
        case measure => simp [RowKit.intOf]; omega
    · obtain rfl : k = l.length := by omega
      rw [List.take_length] at hP
      have hPr := Lib.hid hP
      clear hP
      go_wp2_with fail
      go_end0
      exact ⟨rfl, v', hPr.out, hvb'.out, hst'.out⟩
end Wh
namespace Wh
open Go Go.RowKit Go.Shelf Go.Proofs

/-- An act's value: five numbers, some lines. -/
def DeedV (w : World) (base : Nat) (v : Value) (x : Deed) : Prop := ∃ vl, v = .agg #[.int .i64 x.kind, .int .i64 x.a, .int .i64 x.b, .int .i64 x.c, .int .i64 x.n, vl] ∧ Sl cLine w base vl x.lines
theorem DeedV.up {w w' : World} {base base' : Nat} {v : Value} {x : Deed} (h : DeedV w base v x) (hb : Below base w w') (hB : base ≤ base') : DeedV w' base' v x := by
  obtain ⟨vl, e, hl⟩ := h
  exact ⟨vl, e, hl.up hb hB⟩
theorem openDeed {w : World} {v : Value} {x : Deed} (h : DeedV w w.heap.size v x) : ∃ Al cl, v = .agg #[.int .i64 x.kind, .int .i64 x.a, .int .i64 x.b, .int .i64 x.c, .int .i64 x.n, .slice Al x.lines.length cl] ∧
    Hid (∀ W, Below w.heap.size w W → DeedV W W.heap.size (.agg #[.int .i64 x.kind, .int .i64 x.a, .int .i64 x.b, .int .i64 x.c, .int .i64 x.n, .slice Al x.lines.length cl]) x) ∧
    Hid (∀ W, Below w.heap.size w W → Sl cLine W W.heap.size (.slice Al x.lines.length cl) x.lines) ∧ x.lines.length ≤ 140737488355232 := by
  obtain ⟨vl, rfl, hl⟩ := h
  obtain ⟨Al, cl, rfl, hll, hAl⟩ := hl
  exact ⟨Al, cl, rfl, Lib.hid (fun W hW => ⟨_, rfl, Sl.up ⟨Al, cl, rfl, hll, hAl⟩ hW hW.size⟩), Lib.hid (fun W hW => Sl.up ⟨Al, cl, rfl, hll, hAl⟩ hW hW.size), hll⟩
end Wh
namespace Wh
open Go Go.RowKit Go.Shelf Go.Proofs
attribute [local go_sem] run_indexAt_letter evL_tmp evL_const evL_func

/-- Bytes as a text. -/
def bstr (l : List Nat) : ByteArray := ⟨(l.map UInt8.ofNat).toArray⟩
theorem byteOf_lt (n : Int) : byteOf n < 256 := by
  unfold byteOf
  rw [IntKind.wrap_u8]
  omega
def lineBts (x : Line) : List Nat := [byteOf x.good, byteOf x.want, byteOf x.got, byteOf x.back]
theorem lineBts_eq {x : Line} (h : lineByte x = true) : lineBts x = lineBytes x := by
  unfold lineByte at h
  simp only [Bool.and_eq_true] at h
  unfold lineBts lineBytes
  rw [byteOf_id h.1.1.1, byteOf_id h.1.1.2, byteOf_id h.1.2, byteOf_id h.2]
theorem linesBts_eq {l : List Line} (h : l.all lineByte = true) : l.flatMap lineBts = l.flatMap lineBytes := by
  induction l with
  | nil => rfl
  | cons y r ih =>
    rw [List.all_cons, Bool.and_eq_true] at h
    rw [List.flatMap_cons, List.flatMap_cons, lineBts_eq h.1, ih h.2]
theorem lineBts_len (l : List Line) : (l.flatMap lineBts).length = 4 * l.length := by
  induction l with
  | nil => rfl
  | cons y r ih => rw [List.flatMap_cons, List.length_append, ih, List.length_cons]; simp [lineBts]; omega
theorem lineBts_lt (l : List Line) : ∀ n ∈ l.flatMap lineBts, n < 256 := fun n hn => by
  obtain ⟨y, _, hy⟩ := List.mem_flatMap.1 hn
  simp only [lineBts, List.mem_cons, List.not_mem_nil, or_false] at hy
  rcases hy with rfl | rfl | rfl | rfl <;> exact byteOf_lt _
/-- What stands written when k lines are. -/
def wrote (x : Deed) (k : Nat) : List Nat := [byteOf x.kind, byteOf x.a, byteOf x.b, byteOf x.c, byteOf x.n, byteOf x.lines.length] ++ (x.lines.take k).flatMap lineBts
def wbad (x : Deed) (k : Nat) : Bool := !([x.kind, x.a, x.b, x.c, x.n].all isByte) || !((x.lines.take k).all lineByte)
theorem wrote_len (x : Deed) (k : Nat) : (wrote x k).length ≤ 6 + 4 * k := by
  unfold wrote
  rw [List.length_append, lineBts_len, List.length_take]
  simp only [List.length_cons, List.length_nil]
  omega
theorem wrote_lt (x : Deed) (k : Nat) : ∀ n ∈ wrote x k, n < 256 := fun n hn => by
  rcases List.mem_append.1 hn with h | h
  · simp only [List.mem_cons, List.not_mem_nil, or_false] at h
    rcases h with rfl | rfl | rfl | rfl | rfl | rfl <;> exact byteOf_lt _
  · exact lineBts_lt _ n h
theorem wrote_succ {x : Deed} {k : Nat} (h : k < x.lines.length) : wrote x (k + 1) = wrote x k ++ [(lineAt x.lines k).good, (lineAt x.lines k).want, (lineAt x.lines k).got, (lineAt x.lines k).back].map byteOf := by
  have e : lineAt x.lines k = x.lines[k] := by simp [lineAt, h]
  unfold wrote
  rw [e, List.append_assoc]
  congr 1
  rw [List.take_add_one, List.getElem?_eq_getElem h, List.flatMap_append]
  rfl
theorem wbad_succ {x : Deed} {k : Nat} (h : k < x.lines.length) : wbad x (k + 1) = (wbad x k || !([(lineAt x.lines k).good, (lineAt x.lines k).want, (lineAt x.lines k).got, (lineAt x.lines k).back].all isByte)) := by
  have e : lineAt x.lines k = x.lines[k] := by simp [lineAt, h]
  unfold wbad
  rw [e, List.take_add_one, List.getElem?_eq_getElem h, List.all_append, Bool.not_and]
  have e2 : ((some x.lines[k]).toList.all lineByte) = ([x.lines[k].good, x.lines[k].want, x.lines[k].got, x.lines[k].back].all isByte) := by
    simp only [Option.toList_some, List.all_cons, List.all_nil, Bool.and_true, lineByte, Bool.and_assoc]
  rw [e2, Bool.or_assoc]
theorem wbad_all (x : Deed) : wbad x x.lines.length = !allByte x := by
  unfold wbad allByte
  rw [List.take_length]
  simp only [List.all_cons, List.all_nil, Bool.and_true, Bool.not_and, Bool.or_assoc]
theorem wrote_all {x : Deed} (h : allByte x = true) (hn : x.lines.length ≤ 3) : wrote x x.lines.length = actBytes x := by
  have h' := h
  unfold allByte at h'
  simp only [Bool.and_eq_true] at h'
  obtain ⟨⟨⟨⟨⟨h1, h2⟩, h3⟩, h4⟩, h5⟩, h6⟩ := h'
  unfold wrote actBytes
  have hl : isByte (x.lines.length : Int) = true := isByte_iff.2 (by omega)
  rw [List.take_length, linesBts_eq h6, byteOf_id h1, byteOf_id h2, byteOf_id h3, byteOf_id h4, byteOf_id h5, byteOf_id hl]
  rfl
set_option maxRecDepth 100000 in
/-- 'string(b)' of bytes that a call owns. -/
theorem conv_bytes {w : World} {base : Nat} {A : Option Addr} {n c : Nat} {bs : List Nat} (h : Own cByte 1 5 w base (.slice A n c) bs) (hlt : ∀ x ∈ bs, x < 256) (hpos : 0 < bs.length) :
    (convert 115 9 (.slice A n c)).run Tryz.prog w = .ok (.string (bstr bs)) w := by
  obtain ⟨g, c', hv, _, _⟩ := h.some_ hpos
  injection hv with e1 e2 e3
  subst e1 e2 e3
  have hc := fun j (hj : j < bs.length) => h.at (fun _ => rfl) (i := j) hj
  have key := run_convert_bytes_back (P := Tryz.prog) w 115 9 5 ⟨g, 0, none⟩ c (bs.map UInt8.ofNat) Tryz.underlying115 (by kernel_rfl) (by kernel_rfl) (fun j hj => by
    have hj' : j < bs.length := by simpa using hj
    obtain ⟨g', c2, cur, e1, _, _, h4⟩ := hc j hj'
    injection e1 with e1
    injection e1 with e1
    injection e1 with e1
    subst e1
    have h5 := h4 0 _ rfl
    rw [Addr.add_lit]
    have e : ((bs.map UInt8.ofNat)[j].toNat : Int) = (bs[j] : Int) := by
      rw [List.getElem_map]
      have := hlt _ (List.getElem_mem hj')
      simp
      omega
    rw [e]
    simpa using h5)
  rw [List.length_map] at key
  exact key

theorem run_app_byte (w : World) (base : Nat) (v : Value) (l : List Nat) (n : Nat) (hown : Own cByte 1 5 w base v l) (g c : Nat) (hc : w.cell? ⟨g, 0, none⟩ = some (.int .u8 n)) (hn : l.length ≤ 1000) (hbase : base ≤ w.heap.size) :
    ∃ v' w', (Builtin.append_ #[115, 115] 115 #[v, .slice (some ⟨g, 0, none⟩) 1 c]).run Tryz.prog w = .ok v' w' ∧ Own cByte 1 5 w' base v' (l ++ [n]) ∧ w.grownBy w' v.ownBlock ∧ Below base w w' := by
  obtain ⟨ii, hi, hz, hsize, hbytes⟩ := infoByte
  obtain ⟨v', w3, hr, hown3, hg3, _, _⟩ := run_append_own_at (P := Tryz.prog) w base 115 115 5 ii _ 1 1 Tryz.underlying115 hi hz hsize hbytes rfl (by decide) v _ _ hown ⟨g, 0, none⟩ 1 c (cByte n) rfl
    (fun j u hj => by
      rw [Addr.add_lit]
      match j, hj with
      | 0, hj => exact hc.trans hj
      | j + 1, hj => simp [cByte] at hj) (one_byte n) (by unfold maxLen; omega) (by omega) hbase
  refine ⟨v', w3, hr, ?_, hg3, (Below.refl _ _).grown hg3 hbase fun k hk => (World.ownsRow.lt hown k hk).1⟩
  unfold Own
  rw [List.length_append, List.flatMap_append]
  simpa using hown3

theorem boxesWrite (w : World) (x : Deed) (Al : Option Addr) (cl : Nat) : ∃ W : World, ((w.alloc (.cells #[.int .i64 x.kind, .int .i64 x.a, .int .i64 x.b, .int .i64 x.c, .int .i64 x.n, .slice Al x.lines.length cl] 34)).alloc (.cells #[.slice none 0 0, .bool false] 117)).alloc (.cells #[.int .i64 x.kind, .int .i64 x.a, .int .i64 x.b, .int .i64 x.c, .int .i64 x.n] 3) = W ∧
    Below w.heap.size w W ∧ PenV W w.heap.size (w.heap.size + 1) (.slice none 0 0) false [] ∧ Blk W w.heap.size 34 [.int .i64 x.kind, .int .i64 x.a, .int .i64 x.b, .int .i64 x.c, .int .i64 x.n, .slice Al x.lines.length cl] ∧ Blk W (w.heap.size + 1 + 1) 3 ([x.kind, x.a, x.b, x.c, x.n].map (Value.int .i64)) := by
  have h1 : Blk (w.alloc (.cells #[.int .i64 x.kind, .int .i64 x.a, .int .i64 x.b, .int .i64 x.c, .int .i64 x.n, .slice Al x.lines.length cl] 34)) w.heap.size 34 [.int .i64 x.kind, .int .i64 x.a, .int .i64 x.b, .int .i64 x.c, .int .i64 x.n, .slice Al x.lines.length cl] := Blk.new _ _ _
  have h2 := Blk.new (w.alloc (.cells #[.int .i64 x.kind, .int .i64 x.a, .int .i64 x.b, .int .i64 x.c, .int .i64 x.n, .slice Al x.lines.length cl] 34)) 117 #[.slice none 0 0, .bool false]
  rw [World.size_alloc] at h2
  have h3 := Blk.new ((w.alloc (.cells #[.int .i64 x.kind, .int .i64 x.a, .int .i64 x.b, .int .i64 x.c, .int .i64 x.n, .slice Al x.lines.length cl] 34)).alloc (.cells #[.slice none 0 0, .bool false] 117)) 3 #[.int .i64 x.kind, .int .i64 x.a, .int .i64 x.b, .int .i64 x.c, .int .i64 x.n]
  rw [World.size_alloc, World.size_alloc] at h3
  exact ⟨_, rfl, (((Below.refl _ _).alloc (Nat.le_refl _) _).alloc (by simp) _).alloc (by simp; omega) _, ⟨h2.alloc _, Own.nil⟩, (h1.alloc _).alloc _, h3⟩

set_option maxHeartbeats 8000000 in
set_option maxRecDepth 100000 in
theorem lgWrite (w : World) (v : Value) (x : Deed) (hv : DeedV w w.heap.size v x) (hlb : x.lines.length ≤ 4398046511104) :
    Calls Tryz.prog 28 #[v] w fun e w' => e = .returned (.tuple #[.string (bstr (writeE x).1), .int .i64 (writeE x).2]) ∧ Below w.heap.size w w' := by
  obtain ⟨Al, cl, rfl, hX, hL, hll⟩ := openDeed hv
  clear hv hX
  go_enter Tryz.func28, Tryz.ntmps28
  go_wp2_with fail
  obtain ⟨W, hW, hbw, hP0, hbx0, hbi⟩ := boxesWrite w x Al cl
  rw [hW]
  clear hW
  refine (lgPut W (l := [x.kind, x.a, x.b, x.c, x.n]) hP0 hbw.size hbi (by simp) (by simp)).mono ?_
  rintro e W1 ⟨rfl, v1, hP1, _, hst1⟩
  have hks : ∀ q, (q = w.heap.size + 1 ∨ (Value.slice none 0 0).ownBlock = some q) → q = w.heap.size + 1 := fun q hq => by
    rcases hq with h | h
    · exact h
    · cases h
  have hB1 := hbw.trans (hst1.below (B := w.heap.size) (fun q hq => by have := hks q hq; omega) hbw.size)
  have hbx1 := Lib.hid (hst1.blk hbx0 (fun hh => by have := hks _ hh; omega))
  rw [List.nil_append, Bool.false_or] at hP1
  obtain ⟨bs1, hbs1⟩ : ∃ bs1, [x.kind, x.a, x.b, x.c, x.n].map byteOf = bs1 := ⟨_, rfl⟩
  obtain ⟨bd1, hbd1⟩ : ∃ bd1, (!([x.kind, x.a, x.b, x.c, x.n].all isByte)) = bd1 := ⟨_, rfl⟩
  rw [hbs1, hbd1] at hP1
  have hbs1' := Lib.hid hbs1
  have hbd1' := Lib.hid hbd1
  have hbl : bs1.length = 5 := by rw [← hbs1]; rfl
  clear hbs1 hbd1
  have c0 := hP1.1.cell (j := 0) rfl
  have x5 := hbx1.out.cell (j := 5) rfl
  have lx := hbx1.out.lt
  have lp := hP1.1.lt
  have hwn := byteOf_wrap (x.lines.length : Int)
  obtain ⟨nb, hnb⟩ : ∃ nb, byteOf (x.lines.length : Int) = nb := ⟨_, rfl⟩
  rw [hnb] at hwn
  have hnb' := Lib.hid hnb
  have hba : Below W1.heap.size W1 (W1.alloc (.cells #[.int .u8 nb] 5)).drew := ((Below.refl _ _).alloc (Nat.le_refl _) _).drew
  have hca : (W1.alloc (.cells #[.int .u8 nb] 5)).drew.cell? ⟨W1.heap.size, 0, none⟩ = some (.int .u8 nb) := (Blk.new W1 5 #[.int .u8 nb]).drew.cell (j := 0) rfl
  obtain ⟨v2, w2, hr1, hown2, hg2, hb2⟩ := run_app_byte _ w.heap.size v1 _ nb (hP1.2.below hba) W1.heap.size 1 hca (by omega) (Nat.le_trans hB1.size hba.size)
  obtain ⟨A2, c2, hv2⟩ := hown2.isSlice
  obtain ⟨n2, hn2⟩ : ∃ n2, (bs1 ++ [nb]).length = n2 := ⟨_, rfl⟩
  rw [hn2] at hv2
  subst hv2
  have hPa := hP1.below hba
  have hbp2 : Blk w2 (w.heap.size + 1) 117 [v1, .bool _] := hPa.1.grown hg2 (by
    rcases Own.notBox hPa.2 hPa.1 (by decide) with hn | hn
    · rw [hn]; intro he; cases he
    · exact fun he => hn he.symm)
  have hbx2 := hbx1.out.below hba lx
  have hbx3 := Lib.hid (show Blk w2 w.heap.size 34 _ from hbx2.grown hg2 (by
    rcases Own.notBox hPa.2 hbx2 (by decide) with hn | hn
    · rw [hn]; intro he; cases he
    · exact fun he => hn he.symm))
  obtain ⟨hP3, hg3⟩ := hPa.push hg2 hown2
  have hP3' := Lib.hid hP3
  have hg3' := Lib.hid hg3
  have b3 := hbp2.cell (j := 0) rfl
  have f3 := hbp2.frozen 0
  have lp2 := hbp2.lt
  have hB2 := Lib.hid ((hB1.trans (hba.mono hB1.size)).trans hb2)
  have hr1' := Lib.hid hr1
  clear hP1 hst1 hks hbw hP0 hbx0 hbi hr1 hown2 hg2 hb2 hPa hbp2 hbx2 hP3 hg3 hca hba hnb hn2 hbl
  go_wp2_with fail
  go_region_law (refine step_append_at _ rfl (.tmp 26) (.tmp 31) 115 115 rfl v1 (.slice (some ⟨W1.heap.size, 0, none⟩) 1 1) (by simp [Act.eval]) (by simp [Act.eval]) hr1'.out ?_)
  all_goals
    clear b3 f3 c0 x5 hwn hr1' lp2
    have hB3 := hB2.out.grown hg3'.out hB2.out.size (fun q hq => by injection hq with hq; omega)
    have hbx4 := Lib.hid (hbx3.out.grown hg3'.out (by intro he; injection he with he; omega))
    clear hB1 hbx1 lx lp hB2 hg3' hbx3
    generalize w2.setCell ⟨w.heap.size + 1, 0, none⟩ (.slice A2 n2 c2) = w4 at hP3' hB3 hbx4 ⊢
    have hP4 := Lib.hid (show PenV w4 w.heap.size (w.heap.size + 1) (.slice A2 n2 c2) (wbad x 0) (wrote x 0) by
      have e1 : wbad x 0 = bd1 := by
        rw [← hbd1'.out]
        unfold wbad
        rw [List.take_zero, List.all_nil, Bool.not_true, Bool.or_false]
      have e2 : wrote x 0 = bs1 ++ [nb] := by
        rw [← hbs1'.out, ← hnb'.out]
        unfold wrote
        rw [List.take_zero, List.flatMap_nil, List.append_nil]
        rfl
      rw [e1, e2]
      exact hP3'.out)
    clear hP3' hbs1' hbd1' hnb'
    have x5 := hbx4.out.cell (j := 5) rfl
    have lx := hbx4.out.lt
    go_wp2_with fail
    clear x5 lx
    go_loopw [38, 6] (fun i _ wr => ∃ (k : Nat) (v' : Value), k ≤ x.lines.length ∧ i = .int .i64 k ∧ PenV wr w.heap.size (w.heap.size + 1) v' (wbad x k) (wrote x k) ∧ Blk wr w.heap.size 34 [.int .i64 x.kind, .int .i64 x.a, .int .i64 x.b, .int .i64 x.c, .int .i64 x.n, .slice Al x.lines.length cl] ∧ Below w.heap.size w wr) (fun i _ _ => x.lines.length - (RowKit.intOf i).toNat)
    case atStart => exact ⟨0, _, Nat.zero_le _, rfl, hP4.out, hbx4.out, hB3⟩
    case round =>
      clear hP4 hbx4 hB3
      obtain ⟨k, v', hk, rfl, hP, hbx, hBr⟩ := hrel
      have hP' := Lib.hid hP
      have hbx' := Lib.hid hbx
      clear hP hbx
      by_cases hlt : k < x.lines.length
      · have hki : (k : Int) < (x.lines.length : Int) := by omega
        obtain ⟨okl, ll, f0, f1, f2, f3⟩ := (hL.out wr hBr).at_.line hlt
        have hws := Lib.hid (wrote_succ hlt)
        have hwb := Lib.hid (wbad_succ hlt)
        obtain ⟨y, hy⟩ : ∃ y, lineAt x.lines k = y := ⟨_, rfl⟩
        rw [hy] at f0 f1 f2 f3 hws hwb
        clear hy
        go_wp2_with fail
        clear f0 f1 f2 f3 okl ll
        have hb2 : Below wr.heap.size wr ((wr.alloc (.cells #[.int .i64 y.good, .int .i64 y.want, .int .i64 y.got, .int .i64 y.back] 44)).alloc (.cells #[.int .i64 y.good, .int .i64 y.want, .int .i64 y.got, .int .i64 y.back] 3)) := ((Below.refl _ _).alloc (Nat.le_refl _) _).alloc (by simp) _
        have hbi : Blk ((wr.alloc (.cells #[.int .i64 y.good, .int .i64 y.want, .int .i64 y.got, .int .i64 y.back] 44)).alloc (.cells #[.int .i64 y.good, .int .i64 y.want, .int .i64 y.got, .int .i64 y.back] 3)) (wr.heap.size + 1) 3 ([y.good, y.want, y.got, y.back].map (Value.int .i64)) := by
          have h := Blk.new (wr.alloc (.cells #[.int .i64 y.good, .int .i64 y.want, .int .i64 y.got, .int .i64 y.back] 44)) 3 #[.int .i64 y.good, .int .i64 y.want, .int .i64 y.got, .int .i64 y.back]
          rw [World.size_alloc] at h
          exact h
        generalize (wr.alloc (.cells #[.int .i64 y.good, .int .i64 y.want, .int .i64 y.got, .int .i64 y.back] 44)).alloc (.cells #[.int .i64 y.good, .int .i64 y.want, .int .i64 y.got, .int .i64 y.back] 3) = W2 at hb2 hbi ⊢
        have hwl := wrote_len x k
        refine (lgPut W2 (l := [y.good, y.want, y.got, y.back]) (hP'.out.below hb2) (Nat.le_trans hBr.size hb2.size) hbi (by simp) (by omega)).mono ?_
        rintro e W3 ⟨rfl, v3, hP3, _, hst3⟩
        have hks : ∀ q, (q = w.heap.size + 1 ∨ v'.ownBlock = some q) → w.heap.size ≤ q ∧ q ≠ w.heap.size := fun q hq => by
          rcases hq with rfl | hq
          · omega
          · refine ⟨(hP'.out.2.size q hq).1, fun he => ?_⟩
            rcases Own.notBox hP'.out.2 hbx'.out (by decide) with h | h
            · rw [h] at hq; cases hq
            · exact h (by rw [hq, he])
        have hB3 := (hBr.trans (hb2.mono hBr.size)).trans (hst3.below (B := w.heap.size) (fun q hq => (hks q hq).1) (Nat.le_trans hBr.size hb2.size))
        have hbx3 := Lib.hid (hst3.blk (hbx'.out.below hb2 hbx'.out.lt) (fun hh => (hks _ hh).2 rfl))
        have hP3' := Lib.hid (show PenV W3 w.heap.size (w.heap.size + 1) v3 (wbad x (k + 1)) (wrote x (k + 1)) by rw [hws.out, hwb.out]; exact hP3)
        clear hP3 hst3 hks hb2 hbi hP' hbx' hws hwb hwl
        go_wp2_with fail
        go_roundw
        case rel => exact ⟨k + 1, v3, by omega, by go_num, hP3'.out, hbx3.out, hB3⟩
        case measure => simp [RowKit.intOf]; omega
      · obtain rfl : k = x.lines.length := by omega
        have c1 := hP'.out.1.cell (j := 1) rfl
        have c0 := hP'.out.1.cell (j := 0) rfl
        have lp := hP'.out.1.lt
        have x5 := hbx'.out.cell (j := 5) rfl
        have lx := hbx'.out.lt
        rw [wbad_all] at c1
        clear hlt
        cases hab : allByte x
        · rw [hab] at c1
          have hfin := Lib.hid (show writeE x = ([], 3) by unfold writeE; rw [hab]; rfl)
          clear hab
          go_wp2_with fail
          exact bodyPost_ret (v := .tuple #[.string (bstr []), .int .i64 3]) (by simp [results, Tryz.results28, go_sem, bstr]) rfl ⟨by rw [hfin.out], hBr⟩
        · rw [hab] at c1
          by_cases h3 : 3 < x.lines.length
          · have hfin := Lib.hid (show writeE x = ([], 2) by unfold writeE; rw [hab, if_neg (by simp), if_pos h3])
            have h3i : (3 : Int) < (x.lines.length : Int) := by omega
            clear hab
            go_wp2_with fail
            exact bodyPost_ret (v := .tuple #[.string (bstr []), .int .i64 2]) (by simp [results, Tryz.results28, go_sem, bstr]) rfl ⟨by rw [hfin.out], hBr⟩
          · have hfin := Lib.hid (show writeE x = (wrote x x.lines.length, 0) by unfold writeE; rw [hab, if_neg (by simp), if_neg h3, wrote_all hab (by omega)])
            have h3i : ¬ (3 : Int) < (x.lines.length : Int) := by omega
            obtain ⟨A9, c9, hv9⟩ := hP'.out.2.isSlice
            obtain ⟨n9, hn9⟩ : ∃ n9, (wrote x x.lines.length).length = n9 := ⟨_, rfl⟩
            rw [hn9] at hv9
            subst hv9
            have hconv := conv_bytes hP'.out.2 (wrote_lt x _) (by unfold wrote; simp)
            clear hab hn9
            go_wp2_with fail
            exact bodyPost_ret (v := .tuple #[.string (bstr (wrote x x.lines.length)), .int .i64 0]) (by simp [results, Tryz.results28, go_sem]) rfl ⟨by rw [hfin.out], hBr⟩
end Wh
