/- Kept. -/
import Derived.Test.YtfhfkijmebhgmaaGreatRows
import Derived.ProofKit
import Derived.OpenShut
import Derived.Test.YtfhfkijmebhgmaaGreatK31
namespace Go.Proofs.YtfhfkijmebhgmaaGreat.logKeptDone
open Go.ChangeShapes Go.WideShapes Go.ChangeAt Go.RowKit
theorem ow : ownKnob Tryz.prog.godebug = none:=by kernel_rfl
theorem lo : laidOutB Tryz.prog = true:=by kernel_rfl
theorem pr : Tryz.f11.params = #[25, 63, 3]:=by kernel_rfl
set_option maxRecDepth 99999 in
theorem li (os : Os) (st : os.Started) (H:Type) (enc:TypeId × Value → H) :
 ReturnsInHanded {} Tryz.checked os 11 .any (Rows.logKeptSpec.pre6 enc Tryz.prog Tryz.f11 Rows.logKeptRow.domain false) (Rows.logKeptSpec.post enc Tryz.prog Tryz.f11 false true false false) := by
 refine returnsInHanded_of_change_sized (C := Tryz.checked) ow st (by kernel_rfl) Tryz.func11
  (ChangeSpec.witness6 (enc := enc) (C := Tryz.checked) false ⟨#[], #[.agg #[.slice none 0 0, .slice none 0 0], .slice none 0 0, .int .i64 0], []⟩ 8 (by kernel_rfl) (by kernel_rfl) (by kernel_rfl) (by kernel_rfl)) ?_
 intro W aO a d g _ v c _ lg _
 have u : ∀ (j : Nat) t v, Tryz.f11.params[j]? = some t → a[j]? = some v → Value.okWide Tryz.prog W .any aO t v := v
 have z : (DataW.weightsEach Tryz.prog (Tryz.f11.params.toList ++ Rows.logKeptSpec.plain.varTypes Tryz.prog) (d ++ g)).all (· ≤ reachBytes) = true := lg
 have w := c
 obtain ⟨p,q, A, V,rfl, _, _⟩:=c
 have B : DataW.TrodAll enc Tryz.prog W 0 (fun _ => true) true Tryz.f11.params.toList a.toList d p := A
 rw [pr] at B u z
 obtain ⟨v0,s0,d0,e0,p0,q0, _,rfl,rfl,h0,r0⟩:=trodAll_cons B
 obtain ⟨v1,s1,d1,e1,p1,q1,rfl,rfl,rfl,h1,r1⟩:=trodAll_cons r0
 obtain ⟨v2,s2,d2,e2,p2,q2,rfl,rfl,rfl,h2,r2⟩:=trodAll_cons r1
 obtain ⟨rfl,rfl,rfl⟩:=trodAll_nil r2
 obtain rfl : a = #[v0,v1,v2] := by cases a; simp_all
 obtain ⟨rfl,rfl⟩:=trodVars_none V
 have l0 : ∀ x ∈ p0,x.block < W.heap.size := by obtain ⟨m,hm⟩:=h0; exact DataW.trod_lt m _ _ _ hm
 obtain ⟨x0,y0⟩:=Wh.plan_of (u 0 25 v0 rfl rfl) (Wh.rd_of z (j := 0) rfl rfl h0)
 have l1 : ∀ x ∈ p1,x.block < W.heap.size := by obtain ⟨m,hm⟩:=h1; exact DataW.trod_lt m _ _ _ hm
 obtain ⟨x1,y1⟩:=Wh.acts_of (u 1 63 v1 rfl rfl) (Wh.rd_of z (j := 1) rfl rfl h1)
 obtain ⟨a2,rfl,rfl,rfl,w2⟩:=open_int Wh.JF (u 2 3 v2 rfl rfl) h2
 refine (Wh.logKeptWalk W v0 v1 x0 x1 a2 y0 y1 (bounds_i64 w2)).mono fun e W' ⟨he,k⟩ => ?_
 subst he
 exact ⟨_,rfl, _, _, _, [], _, [],w,trodAll_mk1 (shut_bool Wh.jmB _), (trodAll_cons_mk (Below.trod lo (by kernel_rfl) (of_decide_eq_true (by kernel_rfl)) h0 k l0) (trodAll_cons_mk (Below.trod lo (by kernel_rfl) (of_decide_eq_true (by kernel_rfl)) h1 k l1) (trodAll_cons_mk (shut_int Wh.JF w2) trodAll_mk0))),rfl,k.frame _,fun h => by cases h⟩
theorem ov : Rows.logKeptRow.holds Tryz.pinned (OpenSpec.ofChange Rows.logKeptSpec) :=
 OpenClaim.holds_of_wide 11 Tryz.f11 rfl rfl rfl rfl rfl rfl rfl ⟨rfl,rfl,rfl,rfl,rfl⟩ rfl rfl rfl rfl rfl (by kernel_rfl) Tryz.func11 (by kernel_rfl)
 (of_decide_eq_true (by kernel_rfl)) (by unfold Func.isWrapper; first | (rw [if_pos (by decide +kernel)]; kernel_rfl) | (rw [if_neg (by decide +kernel)]; exact ⟨rfl,rfl⟩))
 (fun os st H enc _ => li os st H enc)
theorem proved : Rows.LogKeptSaid := ov
end Go.Proofs.YtfhfkijmebhgmaaGreat.logKeptDone
