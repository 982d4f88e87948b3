/- '==' of points, by the engine. -/
import Derived.Test.YtidkdlaihmpjfaaDoorVEqS
import Derived.Test.YtidkdlaihmpjfaaDoorVMult
namespace Go.Proofs.YtidkdlaihmpjfaaDoor
set_option linter.unusedVariables false
set_option linter.unusedSimpArgs false
set_option linter.unusedSectionVars false
open Go.ChangeShapes Go.WideShapes Go.ChangeAt Go.RowKit Go.Joins
set_option maxRecDepth 10000
noncomputable def PtD.vals (p : PtD) : List Value := wI .u64 (limW p.x) ++ (wI .u64 (limW p.y) ++ [.bool p.far])
theorem PtD.cells_v (p : PtD) : p.cells = p.vals.map .v := by
  unfold PtD.cells PtD.vals uC
  rw [words_v, words_v]
  simp [limW, bI]
theorem eq_pts {p q : PtD} (hp : p.lt T256) (hq : q.lt T256) (w : World) : (Op.equal 57 (.agg p.vals.toArray) (.agg q.vals.toArray)).run Tryd.prog w = .ok (decide (p.x = q.x) && (decide (p.y = q.y) && (p.far == q.far))) w := by
  have h := equal_struct (P := Tryd.prog) Tryd.underlying57 (by kernel_rfl) p.vals.toArray q.vals.toArray (fun f => if f.offset = 0 then decide (p.x = q.x) else if f.offset = 4 then decide (p.y = q.y) else (p.far == q.far)) 9999 w ?_
  · exact h.trans (by simp)
  · intro f hf
    simp only [List.mem_cons, List.not_mem_nil, or_false] at hf
    rcases hf with rfl | rfl | rfl
    · refine ⟨by decide, ?_⟩
      simp only [Sem.run_bind, part_agg Γok (show Γ 55 = some _ from rfl) rfl, Result.andThen_ok]
      have := equal_nats (k := .u64) Γok (t := 55) (e := 22) Tryd.underlying55 rfl rfl rfl Tryd.underlying22 (limW p.x) (limW q.x) rfl rfl 9997 w
      rw [limW_inj hp.1 hq.1] at this
      exact this
    · refine ⟨by decide, ?_⟩
      simp only [Sem.run_bind, part_agg Γok (show Γ 55 = some _ from rfl) rfl, Result.andThen_ok]
      have := equal_nats (k := .u64) Γok (t := 55) (e := 22) Tryd.underlying55 rfl rfl rfl Tryd.underlying22 (limW p.y) (limW q.y) rfl rfl 9997 w
      rw [limW_inj hp.2 hq.2] at this
      exact this
    · refine ⟨by decide, ?_⟩
      simp only [Sem.run_bind, part_one Γok (show Γ 4 = some _ from rfl) rfl (show p.vals[8]? = some (.bool p.far) from rfl), part_one Γok (show Γ 4 = some _ from rfl) rfl (show q.vals[8]? = some (.bool q.far) from rfl), Result.andThen_ok]
      unfold Op.equalIn
      simp [run_underlying Tryd.underlying4]
theorem eq_pt {p q : PtD} (hp : p.lt T256) (hq : q.lt T256) : EqAgg Tryd.prog .eql 57 p.cells q.cells (decide (p.x = q.x) && (decide (p.y = q.y) && (p.far == q.far))) := by
  rw [p.cells_v, q.cells_v]
  exact (eqAgg_of (by kernel_rfl) (eq_pts hp hq)).1
theorem eq_pt_self {p : PtD} (hp : p.lt T256) : EqAgg Tryd.prog .eql 57 p.cells p.cells true := by
  have := eq_pt hp hp
  simpa using this
end Go.Proofs.YtidkdlaihmpjfaaDoor
