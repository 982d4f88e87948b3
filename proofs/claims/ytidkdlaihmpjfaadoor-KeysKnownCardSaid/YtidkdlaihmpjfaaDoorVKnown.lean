/- The curve secp256k1, and two and three times its base, by the engine. -/
import Derived.Test.YtidkdlaihmpjfaaDoorVEqP
import Derived.Test.YtidkdlaihmpjfaaDoorPicked
namespace Go.Proofs.YtidkdlaihmpjfaaDoor
set_option linter.unusedVariables false
set_option linter.unusedSimpArgs false
set_option linter.unusedSectionVars false
open Go.ChangeShapes Go.WideShapes Go.ChangeAt Go.RowKit Go.Joins
set_option maxRecDepth 10000
theorem uC_val4 {a b c d : Nat} (ha : a < B64) (hb : b < B64) (hc : c < B64) (hd : d < B64) : uC (val4 a b c d) = words [a, b, c, d] := by
  obtain ⟨h0, h1, h2, h3⟩ := lim_val4 ha hb hc hd
  simp only [uC, h0, h1, h2, h3]
def kP : Nat := val4 18446744069414583343 18446744073709551615 18446744073709551615 18446744073709551615
def kN : Nat := val4 13822214165235122497 13451932020343611451 18446744073709551614 18446744073709551615
def kX : Nat := val4 6481385041966929816 188021827762530521 6170039885052185351 8772561819708210092
def kY : Nat := val4 11261198710074299576 18237243440184513561 6747795201694173352 5204712524664259685
def knownC : CvD := ⟨kP, 0, 7, kN, kX, kY⟩
theorem known_fn : FnV Tryd.prog G0 24 [] knownC.v := by
  have e : knownC.cells = words [18446744069414583343, 18446744073709551615, 18446744073709551615, 18446744073709551615, 0, 0, 0, 0, 7, 0, 0, 0, 13822214165235122497, 13451932020343611451, 18446744073709551614, 18446744073709551615, 6481385041966929816, 188021827762530521, 6170039885052185351, 8772561819708210092, 11261198710074299576, 18237243440184513561, 6747795201694173352, 5204712524664259685] ++ [bI false] := by
    unfold CvD.cells knownC
    dsimp only
    rw [show uC kP = words [18446744069414583343, 18446744073709551615, 18446744073709551615, 18446744073709551615] from uC_val4 (by decide) (by decide) (by decide) (by decide), show uC kN = words [13822214165235122497, 13451932020343611451, 18446744073709551614, 18446744073709551615] from uC_val4 (by decide) (by decide) (by decide) (by decide), show uC kX = words [6481385041966929816, 188021827762530521, 6170039885052185351, 8772561819708210092] from uC_val4 (by decide) (by decide) (by decide) (by decide), show uC kY = words [11261198710074299576, 18237243440184513561, 6747795201694173352, 5204712524664259685] from uC_val4 (by decide) (by decide) (by decide) (by decide), uC_lit (n := 0) (by decide), uC_lit (n := 7) (by decide)]
    rfl
  unfold CvD.v
  rw [e]
  refine fn_of_vwp Γok Tryd.func24 (by kernel_rfl) rfl (by simp [Tryd.ntmps24]) (wpv_ok Γok (by kernel_rfl) _ _ _ ?_); conv => whnf
  exact ⟨_, rfl, rfl⟩
theorem good_known : Good knownC := by
  refine ⟨by decide +kernel, by decide +kernel, by decide +kernel, by decide +kernel, by decide +kernel, by decide +kernel, by decide +kernel, by decide +kernel, by decide +kernel, ?_, ?_⟩
  · simp only [addM_def, mulM_def, modN_def]; decide +kernel
  · unfold sideM; simp only [addM_def, mulM_def]; decide +kernel
def kp2 : PtD := ⟨89565891926547004231252920425935692360644145829622209833684329913297188986597, 12158399299693830322967808612713398636155367887041628176798871954788371653930, false⟩
def kp3 : PtD := ⟨112711660439710606056748659173929673102114977341539408544630613555209775888121, 25583027980570883691656905877401976406448868254816295069919888960541586679410, false⟩
def kp (v : Nat) : PtD := match v with | 0 => farP | 1 => knownC.base | 2 => kp2 | _ => kp3
theorem kp_twice : padd knownC knownC.base knownC.base = (kp2, true) := by
  have hv : isInv knownC.P (addM knownC.P knownC.base.y knownC.base.y) 83174505189910067536517124096019359197644205712500122884473429251812128958118 := by
    rw [addM_def]
    exact ⟨by decide +kernel, by decide +kernel⟩
  have hg := coprime_of_inv (by decide +kernel) hv
  unfold padd
  rw [if_neg (show ¬ knownC.base.far = true from Bool.false_ne_true), if_neg (show ¬ knownC.base.far = true from Bool.false_ne_true), if_pos rfl, if_neg (by rw [addM_def]; decide +kernel), if_pos rfl, if_pos hg, ← invM_of hv]
  refine congrArg (fun x => (x, true)) ?_
  unfold chordP
  simp only [addM_def, mulM_def, subM_def, modN_def]
  exact congr (congr (congrArg PtD.mk (by decide +kernel)) (by decide +kernel)) rfl
theorem kp_more : padd knownC kp2 knownC.base = (kp3, true) := by
  have hv : isInv knownC.P (subM knownC.P knownC.base.x kp2.x) 37732016455592228448156445462498416408852156224504820822700452822953572406827 := by
    rw [subM_def]
    exact ⟨by decide +kernel, by decide +kernel⟩
  have hg := coprime_of_inv (by decide +kernel) hv
  unfold padd
  rw [if_neg (show ¬ kp2.far = true from Bool.false_ne_true), if_neg (show ¬ knownC.base.far = true from Bool.false_ne_true), if_neg (by decide +kernel), if_pos hg, ← invM_of hv]
  refine congrArg (fun x => (x, true)) ?_
  unfold chordP
  simp only [addM_def, mulM_def, subM_def, modN_def]
  exact congr (congr (congrArg PtD.mk (by decide +kernel)) (by decide +kernel)) rfl
theorem kp_on : ∀ v, v ≤ 3 → OnP knownC (kp v) := by
  intro v hv
  have : v = 0 ∨ v = 1 ∨ v = 2 ∨ v = 3 := by omega
  rcases this with rfl | rfl | rfl | rfl
  · exact ⟨⟨by decide +kernel, by decide +kernel⟩, by show onB knownC farP = true; unfold onB farP; simp⟩
  · refine ⟨⟨by decide +kernel, by decide +kernel⟩, ?_⟩
    show onB knownC knownC.base = true
    unfold onB
    rw [if_neg (show ¬ knownC.base.far = true from Bool.false_ne_true)]
    unfold sideM
    simp only [addM_def, mulM_def]
    decide +kernel
  · refine ⟨⟨by decide +kernel, by decide +kernel⟩, ?_⟩
    show onB knownC kp2 = true
    unfold onB
    rw [if_neg (show ¬ kp2.far = true from Bool.false_ne_true)]
    unfold sideM
    simp only [addM_def, mulM_def]
    decide +kernel
  · refine ⟨⟨by decide +kernel, by decide +kernel⟩, ?_⟩
    show onB knownC kp3 = true
    unfold onB
    rw [if_neg (show ¬ kp3.far = true from Bool.false_ne_true)]
    unfold sideM
    simp only [addM_def, mulM_def]
    decide +kernel
theorem kp_steps {k : Nat} (hk : k ≤ 3) : Steps2 knownC knownC.base k kp where
  zero := rfl
  twice := fun v h => by
    have : v = 0 ∨ v = 1 := by omega
    rcases this with rfl | rfl
    · unfold padd; rw [if_pos (show (kp 0).far = true from rfl)]
    · exact kp_twice
  more := fun v h => by
    have : v = 0 ∨ v = 1 := by omega
    rcases this with rfl | rfl
    · unfold padd; rw [if_pos (show (kp (2 * 0)).far = true from rfl)]; rfl
    · exact kp_more
  lt := fun v h => (kp_on v (by omega)).lt
theorem kmult {k : Nat} (hk : k ≤ 3) : FnV Tryd.prog G0 51 [knownC.v, uV k, knownC.base.v] (.tup [(kp k).v, nI .i64 0]) :=
  mult_ok good_known (kp_on 1 (by decide)) (Nat.lt_of_le_of_lt hk (by decide)) (kp_steps hk)
end Go.Proofs.YtidkdlaihmpjfaaDoor
