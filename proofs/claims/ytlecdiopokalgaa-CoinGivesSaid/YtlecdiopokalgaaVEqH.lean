/- '==' of holdings, by the engine. -/
import Derived.Test.YtlecdiopokalgaaBUe
import Derived.Test.YtlecdiopokalgaaBUc
namespace Go.Proofs.Ytlecdiopokalgaa
set_option linter.unusedVariables false
set_option linter.unusedSimpArgs false
set_option linter.unusedSectionVars false
open Go.ChangeShapes Go.WideShapes Go.ChangeAt Go.RowKit Go.Joins
set_option maxRecDepth 10000
theorem bts_v (l : List Nat) : bts l = (wI .u8 l).map .v := by simp [bts, wI, nI]
theorem hold_self {h : HoD} (hw : WhoOk h.who) (ha : h.amt < T256) : EqAgg Try.prog .neq 96 h.cells h.cells false := by
  have e : h.cells = (wI .u8 h.who ++ wI .u64 (limW h.amt)).map .v := by
    unfold HoD.cells uC
    rw [words_v, bts_v, List.map_append]
    rfl
  have lw : (wI .u8 h.who).length = 32 := by unfold wI; rw [List.length_map, hw.1]
  rw [e]
  refine (eqAgg_of (r := true) (by kernel_rfl) fun w => ?_).2
  have h := equal_struct (P := Try.prog) Try.underlying96 (by kernel_rfl) (wI .u8 h.who ++ wI .u64 (limW h.amt)).toArray (wI .u8 h.who ++ wI .u64 (limW h.amt)).toArray (fun _ => true) 9999 w ?_
  · exact h.trans (by simp)
  · intro f hf
    simp only [List.mem_cons, List.not_mem_nil, or_false] at hf
    rcases hf with rfl | rfl
    · refine ⟨by decide, ?_⟩
      simp only [Sem.run_bind, part_agg Γok (show Γ 26 = some _ from rfl) rfl, Result.andThen_ok]
      have := equal_nats (k := .u8) Γok (t := 26) (e := 5) Try.underlying26 rfl rfl rfl Try.underlying5 h.who h.who hw.1 hw.1 9997 w
      rw [decide_eq_true rfl] at this
      have e2 : ((wI .u8 h.who ++ wI .u64 (limW h.amt)).drop 0).take 32 = wI .u8 h.who := by rw [List.drop_zero, List.take_append_of_le_length (by omega), List.take_of_length_le (by omega)]
      rw [e2]
      exact this
    · refine ⟨by decide, ?_⟩
      simp only [Sem.run_bind, part_agg Γok (show Γ 42 = some _ from rfl) rfl, Result.andThen_ok]
      have := equal_nats (k := .u64) Γok (t := 42) (e := 40) Try.underlying42 rfl rfl rfl Try.underlying40 (limW h.amt) (limW h.amt) rfl rfl 9997 w
      rw [limW_inj ha ha, decide_eq_true rfl] at this
      have e2 : ((wI .u8 h.who ++ wI .u64 (limW h.amt)).drop 32).take 4 = wI .u64 (limW h.amt) := by rw [List.drop_append_of_le_length (by omega), List.drop_of_length_le (by omega), List.nil_append]; rfl
      rw [e2]
      exact this
end Go.Proofs.Ytlecdiopokalgaa
