/- Whatever plan and text it is handed, DeskPlays returns true and its arguments read as before; the variables of Go's library that it reads hold what the library's text lays (the card ties them). No condition. -/
import Derived.Test.YtniaecolikhmeaaGreatDoorRows
import Derived.Test.YtniaecolikhmeaaGreatDoorCards
import Derived.Test.YtniaecolikhmeaaGreatDoorTie
import Derived.WalkKit
import Derived.ProofKit
import Derived.OpenShut
import Derived.ChangeOld
import Derived.Below
import Derived.SizedLaws
import Derived.Carry
import Derived.Deep.DeepHandedRow
import Derived.Deep.DeepWitnessRowRef
import Derived.Stop.LaidErr
import Derived.Lib.LaidTab
import Derived.Shelf.Vars
import Derived.Lay
import Derived.MakeChecks
import Derived.SevenTiedAt
import Derived.Test.YtniaecolikhmeaaGreatDoorQ41
namespace Go.Proofs.YtniaecolikhmeaaGreatDoor.deskPlaysDone
open Go.ChangeShapes Go.WideShapes Go.ChangeAt Go.RowKit
set_option linter.unusedVariables false

theorem own : ownKnob Tryz.prog.godebug = none := by kernel_rfl
theorem laidOut : laidOutB Tryz.prog = true := by kernel_rfl
theorem params : Tryz.f3.params = #[25, 9] := by kernel_rfl
theorem star : "*" ++ "errors.errorString" = "*errors.errorString" := by decide
theorem rowErr (u : TypeId) (h : Tryz.prog.typeName? 3 u = some "*errors.errorString") : u = 244 :=
  typeName_ptr_named (nm := "errors.errorString") (by rw [star]; kernel_rfl) (by kernel_rfl) (by decide) u (by rw [star]; exact h)
theorem plain_ (W : World) : laidMetH Tryz.prog Rows.deskPlaysRow.laid W = laidMet Tryz.prog Rows.deskPlaysRow.laid W := MakeChecks.laidMetH_plain _ _ _ (by kernel_rfl)

noncomputable def laidWorld (os : Os) : World := World.laidAll Tryz.prog os Rows.deskPlaysRow.laid
set_option maxRecDepth 100000 in
theorem laid_met (os : Os) (args : Array Value) : laidMetH Tryz.prog Rows.deskPlaysRow.laid ((laidWorld os).forCall (fun _ _ => 0) ⟨#[], args, []⟩).memory := by
  rw [plain_]
  exact laidMet_laidAll _ (by kernel_rfl) (by kernel_rfl)

set_option maxRecDepth 100000 in
theorem witness_row (os : Os) {H : Type} (enc : TypeId × Value → H) :
    (OpenSpec.ofChange Rows.deskPlaysSpec).preRow enc Tryz.prog Tryz.f3 Rows.deskPlaysRow.domain false Rows.deskPlaysRow.laid ((laidWorld os).forCall (fun _ _ => 0) ⟨#[], #[.agg #[.slice none 0 0, .slice none 0 0], .string ⟨#[]⟩], []⟩).memory #[.agg #[.slice none 0 0, .slice none 0 0], .string ⟨#[]⟩] := by
  have hw : (DataW.whole enc Tryz.prog ((laidWorld os).forCall (fun _ _ => 0) ⟨#[], #[.agg #[.slice none 0 0, .slice none 0 0], .string ⟨#[]⟩], []⟩).memory Tryz.f3.params.toList (OpenSpec.ofChange Rows.deskPlaysSpec).vars false [.agg #[.slice none 0 0, .slice none 0 0], .string ⟨#[]⟩] 8).map (fun x => (x.1, x.2.1)) =
      some ([.agg [.nil, .nil], .lit (.string [])], []) := by kernel_rfl
  obtain ⟨⟨x1, x2, x3⟩, hx, hx1⟩ := Option.map_eq_some_iff.1 hw
  simp only [Prod.mk.injEq] at hx1
  obtain ⟨rfl, rfl⟩ := hx1
  exact OpenSpec.preRow_of_cond 8 hx (by kernel_rfl) (fun k hk => by cases hk) (by kernel_rfl) (laid_met os _)

/-- What the library's variables hold. -/
theorem libOk {W : World} (hL : laidMet Tryz.prog Rows.deskPlaysRow.laid W) (hS : W.ShapedOpen Tryz.prog) : Wh.F8 W := by
  have h2 : laidMet Tryz.prog (("internal/strconv.uint64pow10", Lib.tabData .u64 Lib.pow10Tab) :: Rows.deskPlaysRow.laid.drop 3) W := hL.tail.tail
  have h4 := hL.tail.tail.tail.tail
  have h5 := hL.tail.tail.tail.tail.tail
  obtain ⟨aR, _, hR, _⟩ := laid_sentinel (g := 3) h4 (by kernel_rfl) (by kernel_rfl) Tryz.underlying53 rowErr Tryz.underlying244 Tryz.underlying246 rfl rfl Tryz.underlying9 (by kernel_rfl) (by kernel_rfl)
  obtain ⟨aS, _, hX, _⟩ := laid_sentinel (g := 2) h5 (by kernel_rfl) (by kernel_rfl) Tryz.underlying53 rowErr Tryz.underlying244 Tryz.underlying246 rfl rfl Tryz.underlying9 (by kernel_rfl) (by kernel_rfl)
  have hcS : W.cell? ⟨2, 0, none⟩ = some (.iface 244 (.pointer (some aS))) := (World.var?_cell (g := 2) (by kernel_rfl) hX 0).trans rfl
  have hcR : W.cell? ⟨3, 0, none⟩ = some (.iface 244 (.pointer (some aR))) := (World.var?_cell (g := 3) (by kernel_rfl) hR 0).trans rfl
  exact ⟨Lib.tabIs_of_head (g := 1) (t := 210) (e := 166) (n := 20) (by kernel_rfl) (by kernel_rfl) Tryz.underlying210 Tryz.underlying166 (by kernel_rfl) (by kernel_rfl) h2,
    cell_of_shapedOpen_int (g := 0) (t := 3) (zero := #[.int .i64 0]) hS (of_decide_eq_true (by kernel_rfl)) (by kernel_rfl) rfl (by kernel_rfl) (by kernel_rfl) Tryz.underlying3, ⟨_, _, hcS⟩, ⟨_, _, hcR⟩⟩

set_option maxRecDepth 100000 in
theorem lifted (os : Os) (started : os.Started) (H : Type) (enc : TypeId × Value → H) (F : Stop.Interp) :
    ReturnsInHanded {} Tryz.checked os 3 .any ((OpenSpec.ofChange Rows.deskPlaysSpec).preRow enc Tryz.prog Tryz.f3 Rows.deskPlaysRow.domain false Rows.deskPlaysRow.laid) (((OpenSpec.ofChange Rows.deskPlaysSpec).at F).post enc Tryz.prog Tryz.f3 false true false false) := by
  refine returnsInHanded_of_row (C := Tryz.checked) (s := OpenSpec.ofChange Rows.deskPlaysSpec) own started (by kernel_rfl) Tryz.func3
    (witness_row_atRef (enc := enc) (C := Tryz.checked) false (laidWorld os) #[.agg #[.slice none 0 0, .slice none 0 0], .string ⟨#[]⟩] (World.laidAll_os _ _ _) (by kernel_rfl) (by kernel_rfl) (by kernel_rfl) (witness_row os enc)) ?_
  intro W aT args ds gs before hval0 hW hcnd _ kX hL hS _
  have hval : ∀ (j : Nat) t v, Tryz.f3.params[j]? = some t → args[j]? = some v → Value.okWide Tryz.prog W .any aT t v := hval0
  have hsz : (DataW.weightsEach Tryz.prog (Tryz.f3.params.toList ++ Rows.deskPlaysSpec.plain.varTypes Tryz.prog) (ds ++ gs)).all (· ≤ reachBytes) = true := kX
  have hLib : Wh.F8 W := libOk (by rw [← plain_]; exact hL) hS
  have hW' := hW
  obtain ⟨p, q, hA0, hV, rfl, hfz, hnd⟩ := hW
  have hA : DataW.TrodAll enc Tryz.prog W 0 (fun _ => true) true Tryz.f3.params.toList args.toList ds p := hA0
  rw [params] at hA hval hsz
  obtain ⟨v0, vs0, d0, ds0, p0, q0, hargs, rfl, rfl, h0, r0⟩ := trodAll_cons hA
  obtain ⟨v1, vs1, d1, ds1, p1, q1, rfl, rfl, rfl, h1, r1⟩ := trodAll_cons r0
  obtain ⟨rfl, rfl, rfl⟩ := trodAll_nil r1
  obtain rfl : args = #[v0, v1] := by cases args; simp_all
  obtain ⟨rfl, rfl⟩ := trodVars_none hV
  have lt0 : ∀ x ∈ p0, x.block < W.heap.size := by obtain ⟨m, hm⟩ := h0; exact DataW.trod_lt m _ _ _ hm
  obtain ⟨x0, y0⟩ := Wh.plan_of (hval 0 25 v0 rfl rfl) (Wh.rd_of hsz (j := 0) rfl rfl h0)
  obtain ⟨s1, rfl, rfl, rfl, w1⟩ := Go.ChangeMaps.open_string Wh.u_string (hval 1 9 v1 rfl rfl) h1
  obtain ⟨t1, rfl, b1⟩ : ∃ t, s1 = Wh.eY t ∧ ∀ n ∈ t, n < 256 := ⟨Wh.nums s1, (Wh.bstr_nums s1).symm, Wh.nums_lt s1⟩
  have l1 : t1.length ≤ 140737488355328 := by
    have q := List.all_eq_true.1 hsz _ (DataW.weights_mem_each (j := 1) rfl rfl (Wh.eY t1).data.toList.length (by simp [DataW.weights]))
    rw [Wh.Ii] at q
    simp [Wh.bytes, reachBytes] at q
    omega
  clear hA0 hval0
  refine (Wh.deskPlaysWalk W v0 x0 t1 y0 hLib b1 l1).mono fun e W' ⟨he, bel⟩ => ?_
  subst he
  exact ⟨_, rfl, _, _, _, [], _, [], hW', trodAll_mk1 (shut_bool Wh.jnJ _), (trodAll_cons_mk (Below.trod laidOut (by kernel_rfl) (of_decide_eq_true (by kernel_rfl)) h0 bel lt0) (trodAll_cons_mk (Go.ChangeMaps.shut_string Wh.u_string w1) trodAll_mk0)), rfl, bel.frame _, fun h => by cases h⟩

theorem over : Rows.deskPlaysRow.holds Tryz.pinned (OpenSpec.ofChange Rows.deskPlaysSpec) :=
  OpenClaim.holds_of_cond 3 Tryz.f3 rfl rfl rfl rfl rfl rfl rfl ⟨rfl, rfl, rfl, rfl, rfl⟩ rfl rfl rfl rfl rfl (by kernel_rfl) Tryz.func3 (by kernel_rfl)
    (of_decide_eq_true (by kernel_rfl)) (by unfold Func.isWrapper; first | (rw [if_pos (by decide +kernel)]; kernel_rfl) | (rw [if_neg (by decide +kernel)]; exact ⟨rfl, rfl⟩))
    (fun os started H enc _ F0 => by rw [OpenClaim.pre_eq_preRow]; exact lifted os started H enc F0)

theorem proved : Rows.DeskPlaysCardSaid :=
  Claim7.holds_tied_plain_at .later [] [.data, .data, .data, .data, .sentinel, .sentinel, .pinned] true (true, "6e7cee881fde6d037fa2556da1f0f75c1de7e3796ab0137efb2f23ed7bdeb2a1") true
    over (fun _ h => by cases h) (by kernel_rfl) (fun _ h => by cases h) deskPlays_row_tie rfl ⟨rfl, rfl⟩ (by kernel_rfl) rfl
    (fun f fn hf hfn => by
      obtain rfl : f = 3 := Option.some.inj ((show Tryz.prog.funcNamed "weighhouse/weighhouselaw.DeskPlays" = some 3 by kernel_rfl).symm.trans hf) |>.symm
      obtain rfl : fn = Tryz.f3 := (Option.some.inj (Tryz.func3.symm.trans hfn)).symm
      exact ⟨by kernel_rfl, fun j t ht => by
        rw [params] at ht
        have hm : t ∈ [25, 9] := by simpa using Array.mem_of_getElem? ht
        have kQ : ([25, 9].all fun u => !Tryz.prog.wantsStandIn u) = true := by kernel_rfl
        exact (show Tryz.prog.wantsStandIn t = false by simpa using List.all_eq_true.1 kQ t hm)⟩)
    (by kernel_rfl)
#print axioms proved
end Go.Proofs.YtniaecolikhmeaaGreatDoor.deskPlaysDone
