/- Texts of the claim, joined: PlainV, KeysP, CountK, CountQ. -/
import Derived.Shelf.SlIterI.Keys
import Derived.Shelf.SlIterI.Sorted
import Derived.Shelf.SortM.Plain
import Derived.Shelf.SortM.SortNone
import Derived.Ground.GgzProg
import Derived.Ground.SlgmProg
import Derived.Test.YtfhfkijmebhgmaaGreatProg
import Derived.Test.YtfhfkijmebhgmaaGreatQ31
import Derived.Test.YtfhfkijmebhgmaaGreatQ32
namespace Wh

/-- The lines of a list of places (three to an order) get back what was cut. -/
def cutGo (p : Plan) (b : Int) (n : Nat → Nat → Int) : List Nat → State → State
  | [], s => s
  | q :: r, s => cutGo p b n r (takeS p s (q / 3) (q % 3) (n (q / 3) (q % 3)) b).1
section
variable {p : Plan} {b : Int} {n : Nat → Nat → Int}
theorem cutGo_append (l r : List Nat) (s : State) : cutGo p b n (l ++ r) s = cutGo p b n r (cutGo p b n l s) := by
  induction l generalizing s with
  | nil => rfl
  | cons q l ih => exact ih _
theorem takeS_none (s : State) (o k : Nat) : (takeS p s o k 0 b).1 = s := by
  have : takeS p s o k 0 b = (s, 0) := takeGo_zero (by omega)
  rw [this]
theorem cutGo_filter (f : Nat → Bool) (hf : ∀ q, f q = false → n (q / 3) (q % 3) = 0) (l : List Nat) (s : State) : cutGo p b n (l.filter f) s = cutGo p b n l s := by
  induction l generalizing s with
  | nil => rfl
  | cons q l ih =>
    cases h : f q
    · rw [List.filter_cons_of_neg (by simp [h]), ih]
      show _ = cutGo p b n l (takeS p s (q / 3) (q % 3) (n (q / 3) (q % 3)) b).1
      rw [hf q h, takeS_none]
    · rw [List.filter_cons_of_pos h]
      exact ih _
theorem cutGo_lines (o m : Nat) (hm : m ≤ 3) (s : State) : cutGo p b n ((List.range m).map fun k => o * 3 + k) s = cutLinesT p o b (n o) m s := by
  induction m with
  | zero => rfl
  | succ m ih =>
    rw [List.range_succ, List.map_append, cutGo_append, ih (by omega)]
    show (takeS p (cutLinesT p o b (n o) m s) ((o * 3 + m) / 3) ((o * 3 + m) % 3) (n ((o * 3 + m) / 3) ((o * 3 + m) % 3)) b).1 = (takeS p (cutLinesT p o b (n o) m s) o m (n o m) b).1
    rw [show (o * 3 + m) / 3 = o by omega, show (o * 3 + m) % 3 = m by omega]
theorem range_three (m : Nat) : List.range ((m + 1) * 3) = List.range (m * 3) ++ (List.range 3).map fun k => m * 3 + k := by
  have h : (m + 1) * 3 = m * 3 + 3 := by omega
  rw [h, List.range_add]
theorem cutLinesT_more {o m : Nat} {f : Nat → Int} {s : State} : ∀ d, (∀ k, m ≤ k → f k = 0) → cutLinesT p o b f (m + d) s = cutLinesT p o b f m s
  | 0, _ => rfl
  | d + 1, h => by
    show (takeS p (cutLinesT p o b f (m + d) s) o (m + d) (f (m + d)) b).1 = _
    rw [h (m + d) (by omega), takeS_none, cutLinesT_more d h]
/-- All places in a row. -/
theorem cutGo_all {s : State} (hl : ∀ o, o < s.orders.length → (s.order o).lines.length ≤ 3) (hz : ∀ o k, (s.order o).lines.length ≤ k → n o k = 0) (hlen : ∀ m o, m ≤ s.orders.length → ((cutOrdersT p b n m s).order o).lines.length = (s.order o).lines.length) :
    ∀ m, m ≤ s.orders.length → cutGo p b n (List.range (m * 3)) s = cutOrdersT p b n m s
  | 0, _ => rfl
  | m + 1, hm => by
    rw [range_three, cutGo_append, cutGo_all hl hz hlen m (by omega), cutGo_lines m 3 (Nat.le_refl _)]
    show _ = cutLinesT p m b (n m) ((cutOrdersT p b n m s).order m).lines.length (cutOrdersT p b n m s)
    rw [hlen m m (by omega)]
    obtain ⟨d, hd⟩ : ∃ d, 3 = (s.order m).lines.length + d := ⟨3 - (s.order m).lines.length, by have := hl m (by omega); omega⟩
    rw [hd, cutLinesT_more d fun k hk => hz m k hk]
end
end Wh
namespace Go.Proofs
open Go.Shelf
def Wh.keysA_ren : Go.Shelf.Ren := ⟨fun | 7 => 66 | 10 => 122 | n => n, fun | 23 => 93 | 26 => 3 | 3 => 3 | 28 => 98 | 0 => 0 | 27 => 97 | 33 => 158 | 4 => 4 | n => n, fun | n => n⟩
theorem Wh.keysA : Go.Proofs.SlLaysZI.n7 Tryz.prog Wh.keysA_ren := {
  mixed := by kernel_rfl
  f7 := ⟨Tryz.f66.name, by decide, Tryz.func66.trans (congrArg some (by kernel_rfl))⟩
  f10 := ⟨Tryz.f122.name, by decide, Tryz.func122.trans (congrArg some (by kernel_rfl))⟩
  t0 := Tryz.underlying0
  a0 := Tryz.isAgg0
  z0 := Tryz.sizeOf0
  v0 := Tryz.zeroValue0
  t4 := Tryz.underlying4
  a4 := Tryz.isAgg4
  z4 := Tryz.sizeOf4
  v4 := Tryz.zeroValue4
  t23 := Tryz.underlying93
  a23 := Tryz.isAgg93
  z23 := Tryz.sizeOf93
  v23 := Tryz.zeroValue93
  t26 := Tryz.underlying3
  a26 := Tryz.isAgg3
  z26 := Tryz.sizeOf3
  v26 := Tryz.zeroValue3
  t27 := Tryz.underlying97
  a27 := Tryz.isAgg97
  z27 := Tryz.sizeOf97
  v27 := Tryz.zeroValue97
  t28 := Tryz.underlying98
  a28 := Tryz.isAgg98
  z28 := Tryz.sizeOf98
  v28 := Tryz.zeroValue98
  t33 := Tryz.underlying158
  a33 := Tryz.isAgg158
  z33 := Tryz.sizeOf158
  v33 := Tryz.zeroValue158 }
def Wh.sortedA_ren : Go.Shelf.Ren := ⟨fun | 6 => 65 | 8 => 120 | 9 => 121 | 11 => 161 | 13 => 163 | 12 => 162 | 23 => 179 | 24 => 180 | 14 => 170 | 15 => 171 | 16 => 172 | 17 => 173 | 18 => 174 | 19 => 175 | 20 => 176 | 21 => 177 | 22 => 178 | 25 => 185 | 26 => 186 | 27 => 187 | 28 => 188 | 29 => 189 | 30 => 190 | 31 => 192 | n => n, fun | 26 => 3 | 28 => 98 | 24 => 23 | 0 => 0 | 3 => 3 | 37 => 196 | 48 => 213 | 50 => 215 | 4 => 4 | 40 => 206 | 39 => 205 | 45 => 141 | 5 => 5 | 9 => 9 | 51 => 218 | 55 => 178 | 57 => 223 | 58 => 224 | 33 => 158 | n => n, fun | n => n⟩
theorem Wh.sortedA : Go.Proofs.SlLaysZI.n6 Tryz.prog Wh.sortedA_ren := {
  mixed := by kernel_rfl
  f6 := ⟨Tryz.f65.name, by decide, Tryz.func65.trans (congrArg some (by kernel_rfl))⟩
  f8 := ⟨Tryz.f120.name, by decide, Tryz.func120.trans (congrArg some (by kernel_rfl))⟩
  f11 := ⟨Tryz.f161.name, by decide, Tryz.func161.trans (congrArg some (by kernel_rfl))⟩
  t0 := Tryz.underlying0
  a0 := Tryz.isAgg0
  z0 := Tryz.sizeOf0
  v0 := Tryz.zeroValue0
  t24 := Tryz.underlying23
  a24 := Tryz.isAgg23
  z24 := Tryz.sizeOf23
  v24 := Tryz.zeroValue23
  t26 := Tryz.underlying3
  a26 := Tryz.isAgg3
  z26 := Tryz.sizeOf3
  v26 := Tryz.zeroValue3
  t28 := Tryz.underlying98
  a28 := Tryz.isAgg98
  z28 := Tryz.sizeOf98
  v28 := Tryz.zeroValue98
  i26 := by kernel_rfl }
def Wh.sortA_ren : Go.Shelf.Ren := ⟨fun | 5 => 121 | 8 => 163 | 7 => 162 | 19 => 179 | 20 => 180 | 10 => 170 | 11 => 171 | 12 => 172 | 13 => 173 | 14 => 174 | 15 => 175 | 16 => 176 | 17 => 177 | 18 => 178 | 30 => 185 | 31 => 186 | 32 => 187 | 33 => 188 | 34 => 189 | 35 => 190 | 40 => 192 | n => n, fun | 23 => 23 | 25 => 3 | 3 => 3 | 32 => 196 | 22 => 23 | 0 => 0 | 44 => 213 | 46 => 215 | 4 => 4 | 36 => 206 | 35 => 205 | 41 => 141 | 5 => 5 | 9 => 9 | 53 => 218 | 57 => 178 | 63 => 223 | 64 => 224 | n => n, fun | n => n⟩
theorem Wh.sortA : Go.Proofs.SlLaysM.n5 Tryz.prog Wh.sortA_ren := {
  mixed := by kernel_rfl
  f5 := ⟨Tryz.f121.name, by decide, Tryz.func121.trans (congrArg some (by kernel_rfl))⟩
  f7 := ⟨Tryz.f162.name, by decide, Tryz.func162.trans (congrArg some (by kernel_rfl))⟩
  f8 := Tryz.func163.trans (congrArg some (by kernel_rfl))
  f10 := ⟨Tryz.f170.name, by decide, Tryz.func170.trans (congrArg some (by kernel_rfl))⟩
  f11 := ⟨Tryz.f171.name, by decide, Tryz.func171.trans (congrArg some (by kernel_rfl))⟩
  f12 := ⟨Tryz.f172.name, by decide, Tryz.func172.trans (congrArg some (by kernel_rfl))⟩
  f13 := ⟨Tryz.f173.name, by decide, Tryz.func173.trans (congrArg some (by kernel_rfl))⟩
  f14 := ⟨Tryz.f174.name, by decide, Tryz.func174.trans (congrArg some (by kernel_rfl))⟩
  f15 := ⟨Tryz.f175.name, by decide, Tryz.func175.trans (congrArg some (by kernel_rfl))⟩
  f16 := ⟨Tryz.f176.name, by decide, Tryz.func176.trans (congrArg some (by kernel_rfl))⟩
  f17 := ⟨Tryz.f177.name, by decide, Tryz.func177.trans (congrArg some (by kernel_rfl))⟩
  f18 := ⟨Tryz.f178.name, by decide, Tryz.func178.trans (congrArg some (by kernel_rfl))⟩
  f19 := Tryz.func179.trans (congrArg some (by kernel_rfl))
  f20 := Tryz.func180.trans (congrArg some (by kernel_rfl))
  f30 := ⟨Tryz.f185.name, by decide, Tryz.func185.trans (congrArg some (by kernel_rfl))⟩
  f31 := Tryz.func186.trans (congrArg some (by kernel_rfl))
  f32 := Tryz.func187.trans (congrArg some (by kernel_rfl))
  f33 := ⟨Tryz.f188.name, by decide, Tryz.func188.trans (congrArg some (by kernel_rfl))⟩
  f34 := ⟨Tryz.f189.name, by decide, Tryz.func189.trans (congrArg some (by kernel_rfl))⟩
  f35 := ⟨Tryz.f190.name, by decide, Tryz.func190.trans (congrArg some (by kernel_rfl))⟩
  f40 := ⟨Tryz.f192.name, by decide, Tryz.func192.trans (congrArg some (by kernel_rfl))⟩
  t0 := Tryz.underlying0
  a0 := Tryz.isAgg0
  z0 := Tryz.sizeOf0
  v0 := Tryz.zeroValue0
  t3 := Tryz.underlying3
  a3 := Tryz.isAgg3
  z3 := Tryz.sizeOf3
  v3 := Tryz.zeroValue3
  t4 := Tryz.underlying4
  a4 := Tryz.isAgg4
  z4 := Tryz.sizeOf4
  v4 := Tryz.zeroValue4
  t5 := Tryz.underlying5
  a5 := Tryz.isAgg5
  z5 := Tryz.sizeOf5
  v5 := Tryz.zeroValue5
  t9 := Tryz.underlying9
  a9 := Tryz.isAgg9
  z9 := Tryz.sizeOf9
  v9 := Tryz.zeroValue9
  t22 := Tryz.underlying23
  a22 := Tryz.isAgg23
  z22 := Tryz.sizeOf23
  v22 := Tryz.zeroValue23
  t23 := Tryz.underlying23
  a23 := Tryz.isAgg23
  z23 := Tryz.sizeOf23
  v23 := Tryz.zeroValue23
  t25 := Tryz.underlying3
  a25 := Tryz.isAgg3
  z25 := Tryz.sizeOf3
  v25 := Tryz.zeroValue3
  t32 := Tryz.underlying196
  a32 := Tryz.isAgg196
  z32 := Tryz.sizeOf196
  v32 := Tryz.zeroValue196
  t35 := Tryz.underlying205
  a35 := Tryz.isAgg205
  z35 := Tryz.sizeOf205
  v35 := Tryz.zeroValue205
  t36 := Tryz.underlying206
  a36 := Tryz.isAgg206
  z36 := Tryz.sizeOf206
  v36 := Tryz.zeroValue206
  t41 := Tryz.underlying141
  a41 := Tryz.isAgg141
  z41 := Tryz.sizeOf141
  v41 := Tryz.zeroValue141
  t44 := Tryz.underlying213
  a44 := Tryz.isAgg213
  z44 := Tryz.sizeOf213
  v44 := Tryz.zeroValue213
  t46 := Tryz.underlying215
  a46 := Tryz.isAgg215
  z46 := Tryz.sizeOf215
  v46 := Tryz.zeroValue215
  t53 := Tryz.underlying218
  a53 := Tryz.isAgg218
  z53 := Tryz.sizeOf218
  v53 := Tryz.zeroValue218
  t57 := Tryz.underlying178
  a57 := Tryz.isAgg178
  z57 := Tryz.sizeOf178
  v57 := Tryz.zeroValue178
  t63 := Tryz.underlying223
  a63 := Tryz.isAgg223
  z63 := Tryz.sizeOf223
  v63 := Tryz.zeroValue223
  t64 := Tryz.underlying224
  a64 := Tryz.isAgg224
  z64 := Tryz.sizeOf224
  v64 := Tryz.zeroValue224 }
end Go.Proofs
namespace Wh
open Go Go.RowKit Go.Maps Go.Sort Go.Shelf Go.Proofs

theorem sortsInt (m : Nat) : AnyZI.SortsIn Tryz.prog Wh.sortedA_ren Fence.wide m :=
  ⟨fun blk off cap ss W hH hblk hsz => callsIn_wide.2 (AnyM.slices_Sort_int Wh.sortA blk off cap ss W hH hblk hsz), fun p cap W => callsIn_wide.2 (AnyM.slices_Sort_int_none Wh.sortA p cap W)⟩
theorem keysOf (mb : Option Nat) (W : World) : Calls Tryz.prog 66 #[.map mb] W fun e w' => e = .returned (.func (.func 122) #[] #[.pointer (some ⟨W.heap.size, 0, none⟩)]) ∧ w' = W.alloc (.cells #[.map mb] 93) :=
  (callsIn_wide (n := 5)).1 (AnyZI.keys_in Wh.keysA Fence.wide 5 trivial rfl mb W)
theorem sortedKeys (b nn : Nat) (D0 : DataW Unit) (R : Value → Option (DataW Unit × List MemPlace)) (w : World) (hown : w.ownsMap Tryz.prog 3 R b nn D0) (hmax : Maps.size D0 ≤ 1000000) :
    Calls Tryz.prog 65 #[.func (.func 122) #[] #[.pointer (some ⟨w.heap.size, 0, none⟩)]] (w.alloc (.cells #[.map (some b)] 93)) fun e w' => ∃ (v : Value) (ss : List Int), e = .returned v ∧ ss.Perm (intKeys D0) ∧
      w'.ownsRow (w.alloc (.cells #[.map (some b)] 93)).heap.size 3 1 v ss.length ((ss.mergeSort (fun x y => decide (x ≤ y))).map encZ) ∧ Below (w.alloc (.cells #[.map (some b)] 93)).heap.size (w.alloc (.cells #[.map (some b)] 93)) w' := by
  have hbl := hown.lt
  have hseq : SeqGives Fence.wide 2 Tryz.prog 122 #[.pointer (some ⟨w.heap.size, 0, none⟩)] encZ (fun ss => ss.Perm (intKeys D0)) (Maps.size D0) (w.alloc (.cells #[.map (some b)] 93)) :=
    AnyZI.keys_gives (ρ := Wh.keysA_ren) { Wh.keysA with } Fence.wide _ trivial rfl (by omega) w.heap.size b nn D0 _ (by simp) (by simp) (by
      obtain ⟨es, clock, hb, Ft, hs, hD⟩ := hown
      exact ⟨es, clock, (Below.heap_alloc _ _ b hbl).trans hb, Ft, hs, hD⟩)
  have cS := AnyZI.sorted_in Wh.sortedA Fence.wide 5 trivial trivial trivial trivial rfl (by omega) (sortsInt _) (enters_of Tryz.func121 (by kernel_rfl) rfl) 122 #[.pointer (some ⟨w.heap.size, 0, none⟩)] trivial (enters_of Tryz.func122 (by kernel_rfl) rfl) _ _ (by unfold maxLen; omega) (by omega) _ hseq
  refine ((callsIn_wide (n := 5)).1 cS).mono ?_
  rintro e w' ⟨v, ss, h1, h2, h3, _, h5⟩
  exact ⟨v, ss, h1, h2, h3, h5⟩

end Wh
namespace Wh
open Go Go.RowKit Go.Maps Go.Sort Go.Shelf Go.Proofs

section
variable {p : Plan} {s s1 : State} {i j : Nat} {D : DataW Unit} {l : List Hold}
def keyF (D : DataW Unit) (q : Nat) : Bool := has D (keyL (q : Int))
def keyList (s : State) (D : DataW Unit) : List Nat := (List.range (s.orders.length * 3)).filter (keyF D)
theorem key_iff (hs : Sane p s) (h : CutMap s1 i j l 0 D) (h1 : s1.holds = s.holds) (x : Int) : has D (keyL x) = true ↔ ∃ q : Nat, q < s.orders.length * 3 ∧ keyF D q = true ∧ x = q := by
  constructor
  · intro hx
    obtain ⟨a, ha, _, _, he⟩ := (h.keys x).1 hx
    simp only [h1] at ha he
    have := hs.holdAt ha
    rw [hold_get ha] at this
    obtain ⟨⟨a1, a2⟩, ⟨a3, a4⟩, _⟩ := this
    have hf := (fine_iff.1 ((holdsOk_iff.1 hs.holds).1 _ (List.getElem_mem ha))).1
    unfold keyOk at hf
    obtain ⟨q, rfl⟩ : ∃ q : Nat, x = q := ⟨x.toNat, by omega⟩
    exact ⟨q, by omega, hx, rfl⟩
  · rintro ⟨q, _, h2, rfl⟩
    exact h2
theorem keys_sorted (hs : Sane p s) (h : CutMap s1 i j l 0 D) (h1 : s1.holds = s.holds) {w : World} {R : Value → Option (DataW Unit × List MemPlace)} {mb nn : Nat} (hown : w.ownsMap Tryz.prog 3 R mb nn D) {ss : List Int} (hp : ss.Perm (intKeys D)) :
    ss.mergeSort (fun x y => decide (x ≤ y)) = nats (keyList s D) := by
  obtain ⟨es, rfl, hpw, _⟩ := hown.entries lawInt
  obtain ⟨es', he, hko⟩ := hown.keysOf
  obtain rfl : es = es' := by injection he
  have hpl : (keyList s (.map es)).Pairwise (· < ·) := List.Pairwise.filter _ List.pairwise_lt_range
  have hnn : (nats (keyList s (.map es))).Nodup := by
    unfold nats
    rw [List.Nodup, List.pairwise_map]
    exact hpl.imp fun h => by omega
  have hm : ∀ x : Int, x ∈ nats (keyList s (.map es)) ↔ has (.map es) (keyL x) = true := fun x => by
    rw [key_iff hs h h1 x]
    unfold nats keyList
    simp only [List.mem_map, List.mem_filter, List.mem_range]
    constructor
    · rintro ⟨q, ⟨h1, h2⟩, rfl⟩
      exact ⟨q, h1, h2, rfl⟩
    · rintro ⟨q, h1, h2, rfl⟩
      exact ⟨q, ⟨h1, h2⟩, rfl⟩
  have hperm := perm_intKeys hpw (fun p hp => by obtain ⟨v, hv⟩ := hko p hp; obtain ⟨x, _, hx, _⟩ := Maps.keyOf_i64 Tryz.underlying3 hv; exact ⟨x, hx⟩) hnn hm
  have tr : ∀ a b c : Int, decide (a ≤ b) = true → decide (b ≤ c) = true → decide (a ≤ c) = true := fun a b c h1 h2 => by simp only [decide_eq_true_eq] at *; omega
  have to : ∀ a b : Int, (decide (a ≤ b) || decide (b ≤ a)) = true := fun a b => by simp only [Bool.or_eq_true, decide_eq_true_eq]; omega
  refine List.Perm.eq_of_pairwise (le := fun a b => decide (a ≤ b) = true) (fun a b _ _ h1 h2 => by simp only [decide_eq_true_eq] at h1 h2; omega) (List.pairwise_mergeSort tr to ss) (by
    unfold nats
    rw [List.pairwise_map]
    exact hpl.imp fun h => by simp only [decide_eq_true_eq]; omega) ((List.mergeSort_perm ss _).trans (hp.trans hperm.symm))
/-- Where there is no key, nothing was cut. -/
theorem key_none {v : Int} (hs : Sane p s) (h : CutMap s1 i j l 0 D) (h1 : s1.holds = s.holds) (h2 : hdC s1 i j = hdC s i j) {q : Nat} (hq : keyF D q = false) : cutN s i j v ((q / 3 : Nat) : Int) ((q % 3 : Nat) : Int) = 0 := by
  have hr := cutN_range hs i j v ((q / 3 : Nat) : Int) ((q % 3 : Nat) : Int)
  by_cases h0 : keptAt s.holds ((q / 3 : Nat) : Int) ((q % 3 : Nat) : Int) i = 0
  · omega
  · obtain ⟨_, hmem⟩ := keptAt_key (holdsOk_iff.1 hs.holds).1 (holdsOk_iff.1 hs.holds).2 h0
    by_cases hg : (s.line (q / 3) (q % 3)).good = j
    · obtain ⟨a, ha, hae⟩ := List.getElem_of_mem hmem
      have : keyF D q = true := (h.keys (q : Int)).2 ⟨a, by rw [h1]; exact ha, Nat.zero_le _, by
        simp only [h1, h2, hae]
        exact hd_is.2 ⟨rfl, by show (s.line ((q / 3 : Nat) : Int).toNat ((q % 3 : Nat) : Int).toNat).good = _; rw [Int.toNat_natCast, Int.toNat_natCast]; exact hg⟩, by
        simp only [h1, hae]
        omega⟩
      rw [hq] at this
      cases this
    · have := (cutHd_keptAt hs i j v ((q / 3 : Nat) : Int) ((q % 3 : Nat) : Int) i).2 (fun hh => hg (by have := hh.2; rw [Int.toNat_natCast, Int.toNat_natCast] at this; exact this))
      unfold cutN
      omega
/-- A key's line, and how much it has to get back. -/
theorem key_line {seen v : Int} (hc : checkState p s = 0) (h : CutMap s1 i j l 0 D) (h1 : s1.holds = s.holds) (h2 : hdC s1 i j = hdC s i j) {q : Nat} (hq : keyF D q = true) :
    May (cutS s i j seen v) (q / 3) (q % 3) (cutN s i j v ((q / 3 : Nat) : Int) ((q % 3 : Nat) : Int)) := by
  have hr0 := right_of_check hc
  have hs := hr0.sane
  obtain ⟨a, ha, _, hi, he⟩ := (h.keys (q : Int)).1 hq
  simp only [h1, h2] at ha hi he
  have hh := hs.holdAt ha
  rw [hold_get ha] at hh
  obtain ⟨⟨a1, a2⟩, ⟨a3, a4⟩, _⟩ := hh
  have hfa := fine_iff.1 ((holdsOk_iff.1 hs.holds).1 _ (List.getElem_mem ha))
  have hf := hfa.1
  unfold keyOk at hf
  have e1 : s.holds[a].order = ((q / 3 : Nat) : Int) := by omega
  have e2 : s.holds[a].line = ((q % 3 : Nat) : Int) := by omega
  have e3 := (hd_is.1 hi).1
  rw [e1] at a2 a4
  rw [e2] at a4
  simp only [Int.toNat_natCast] at a4
  have ho : q / 3 < s.orders.length := by omega
  have hk : q % 3 < (s.order (q / 3)).lines.length := by omega
  have hka := keptAt_at (ok_nodup hs.holds) ha
  rw [e1, e2, e3] at hka
  have hkk := keptAt_kept hs.holds ((q / 3 : Nat) : Int) ((q % 3 : Nat) : Int) i
  have hr := cutN_range hs i j v ((q / 3 : Nat) : Int) ((q % 3 : Nat) : Int)
  have h5 := hr0.lineSum ho hk
  have h3 := hs.line ho hk
  have h4 := hs.kind ho
  have h6 : (s.order (q / 3)).kind ≠ 0 := fun e => by rw [if_pos e] at h5; omega
  have h7 : (s.order (q / 3)).kind ≠ 2 := fun e => h5.2 ⟨e, by omega⟩
  refine ⟨by rw [cut_len]; exact ho, by rw [cut_lines _ ho]; exact hk, by rw [cut_kind _ ho]; omega, hr.1, ?_⟩
  rw [cut_line ho hk]
  simp only
  omega
theorem key_val {v : Int} (h : CutMap s1 i j (cutHd s i j v) 0 D) (h1 : s1.holds = s.holds) {q : Nat} (hq : keyF D q = true) (z : DataW Unit) : D.atKey (keyL (q : Int)) z = .lit (.int .i64 (cutN s i j v ((q / 3 : Nat) : Int) ((q % 3 : Nat) : Int))) := by
  have e : (q : Int) = ((q / 3 : Nat) : Int) * 3 + ((q % 3 : Nat) : Int) := by omega
  have hq' : has D (keyL (((q / 3 : Nat) : Int) * 3 + ((q % 3 : Nat) : Int))) = true := by rw [← e]; exact hq
  have := h.vals (q / 3) (q % 3) (by omega) hq' z
  rw [← e] at this
  rw [this, h1]
  rfl
/-- .. in the order of the keys. -/
def keyGo (p : Plan) (s : State) (i j : Nat) (n : Int) (D : DataW Unit) (q : Nat) : State := cutGo p i (fun o k => cutN s i j (over s i j n) o k) ((keyList s D).take q) (cutS s i j n (over s i j n))
theorem keyGo_succ {n : Int} {q : Nat} (hq : q < (keyList s D).length) : keyGo p s i j n D (q + 1) = (takeS p (keyGo p s i j n D q) ((keyList s D)[q] / 3) ((keyList s D)[q] % 3) (cutN s i j (over s i j n) (((keyList s D)[q] / 3 : Nat) : Int) (((keyList s D)[q] % 3 : Nat) : Int)) i).1 := by
  unfold keyGo
  rw [List.take_succ_eq_append_getElem hq, cutGo_append]
  rfl
theorem key_inc {a b : Nat} (ha : a < b) (hb : b < (keyList s D).length) : (keyList s D)[a] < (keyList s D)[b] := by
  have hpl : (keyList s D).Pairwise (· < ·) := List.Pairwise.filter _ List.pairwise_lt_range
  exact List.pairwise_iff_getElem.1 hpl a b (by omega) hb ha
theorem key_mem {q : Nat} (hq : q < (keyList s D).length) : keyF D (keyList s D)[q] = true ∧ (keyList s D)[q] < s.orders.length * 3 := by
  have := List.mem_filter.1 (List.getElem_mem hq)
  exact ⟨this.2, List.mem_range.1 this.1⟩
theorem key_took {n : Int} (hc : checkState p s = 0) (f : Counts p s i j n) (h : CutMap s1 i j l 0 D) (h1 : s1.holds = s.holds) (h2 : hdC s1 i j = hdC s i j) :
    ∀ q, q ≤ (keyList s D).length → Took p i (fun o k => ∃ r, ∃ hr : r < (keyList s D).length, r < q ∧ o = (keyList s D)[r] / 3 ∧ k = (keyList s D)[r] % 3) (cutS s i j n (over s i j n)) (keyGo p s i j n D q)
  | 0, _ => by
    unfold keyGo
    rw [List.take_zero]
    exact Took.refl (right_of_check (cut_check hc f))
  | q + 1, hq => by
    have t := key_took hc f h h1 h2 q (by omega)
    have hm := key_line (seen := n) (v := over s i j n) hc h h1 h2 (key_mem (show q < (keyList s D).length by omega)).1
    rw [keyGo_succ (by omega)]
    refine (t.trans (Took.one t.right (t.may ?_ (.inr hm)))).mono ?_
    · rintro ⟨r, hr, hrq, e1, e2⟩
      have := key_inc (s := s) (D := D) hrq (by omega)
      omega
    · rintro o k (⟨r, hr, hrq, e1, e2⟩ | ⟨e1, e2⟩)
      · exact ⟨r, hr, by omega, e1, e2⟩
      · exact ⟨q, by omega, by omega, e1, e2⟩
theorem key_may {n : Int} (hc : checkState p s = 0) (f : Counts p s i j n) (h : CutMap s1 i j l 0 D) (h1 : s1.holds = s.holds) (h2 : hdC s1 i j = hdC s i j) {q : Nat} (hq : q < (keyList s D).length) :
    Right p (keyGo p s i j n D q) ∧ May (keyGo p s i j n D q) ((keyList s D)[q] / 3) ((keyList s D)[q] % 3) (cutN s i j (over s i j n) (((keyList s D)[q] / 3 : Nat) : Int) (((keyList s D)[q] % 3 : Nat) : Int)) := by
  have t := key_took hc f h h1 h2 q (by omega)
  have hm := key_line (seen := n) (v := over s i j n) hc h h1 h2 (key_mem hq).1
  refine ⟨t.right, by rw [t.orders]; exact hm.ho, by rw [t.lines]; exact hm.hk, by rw [t.kind]; exact hm.kind, hm.n0, ?_⟩
  rw [t.back]
  · exact hm.back
  · rintro ⟨r, hr, hrq, e1, e2⟩
    have := key_inc (s := s) (D := D) hrq hq
    omega
theorem keyGo_all {n : Int} (hc : checkState p s = 0) (f : Counts p s i j n) (h : CutMap s1 i j l 0 D) (h1 : s1.holds = s.holds) (h2 : hdC s1 i j = hdC s i j) : keyGo p s i j n D (keyList s D).length = countS p s i j n := by
  have hr := right_of_check hc
  have hcut := right_of_check (cut_check hc f)
  have hlen : (cutS s i j n (over s i j n)).orders.length = s.orders.length := cut_len
  unfold keyGo keyList
  rw [List.take_length, cutGo_filter (keyF D) (fun q hq => key_none hr.sane h h1 h2 hq)]
  unfold countS
  rw [← hlen]
  refine cutGo_all (fun o ho => (hcut.sane.lines3 ho).2) (fun o k hk => ?_) (fun m o hm => ?_) _ (Nat.le_refl _)
  · have hn := cutN_range hr.sane i j (over s i j n) (o : Int) (k : Int)
    by_cases h0 : keptAt s.holds (o : Int) (k : Int) i = 0
    · omega
    · obtain ⟨_, hmem⟩ := keptAt_key (holdsOk_iff.1 hr.sane.holds).1 (holdsOk_iff.1 hr.sane.holds).2 h0
      obtain ⟨a, ha, hae⟩ := List.getElem_of_mem hmem
      have hh := hr.sane.holdAt ha
      rw [hold_get ha, hae] at hh
      simp only [Int.toNat_natCast] at hh
      obtain ⟨⟨a1, a2⟩, ⟨a3, a4⟩, _⟩ := hh
      rw [cut_lines o (by omega)] at hk
      omega
  · exact (cutOrdersT_took (b := i) hcut (fun o k ho hk => by
      rw [cut_len] at ho
      rw [cut_lines o ho] at hk
      exact cut_ready hr ho hk) m hm).lines o
end
end Wh
