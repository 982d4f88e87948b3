/- Keccak: what the code reckons, as a plain law: with sealed words for the walk, and with open ones for reckoning. -/
import Derived.Test.YtidkdlaihmpjfaaDoorVLaw
namespace Go.Proofs.YtidkdlaihmpjfaaDoor
set_option linter.unusedVariables false
set_option linter.unusedSimpArgs false
set_option linter.unusedSectionVars false
open Go.ChangeShapes Go.WideShapes Go.ChangeAt Go.RowKit Go.Joins
set_option maxRecDepth 10000
theorem xo_ex : ∃ f : Nat → Nat → Nat, ∀ a b, f a b = a ^^^ b := ⟨_, fun _ _ => rfl⟩
noncomputable def xo : Nat → Nat → Nat := Classical.choose xo_ex
theorem xo_def (a b : Nat) : xo a b = a ^^^ b := Classical.choose_spec xo_ex a b
theorem an_ex : ∃ f : Nat → Nat → Nat, ∀ a b, f a b = a &&& b := ⟨_, fun _ _ => rfl⟩
noncomputable def an : Nat → Nat → Nat := Classical.choose an_ex
theorem an_def (a b : Nat) : an a b = a &&& b := Classical.choose_spec an_ex a b
def rotl (x k : Nat) : Nat := (x * 2 ^ k % 18446744073709551616) ||| (x / 2 ^ (64 - k))
theorem rt_ex : ∃ f : Nat → Nat → Nat, ∀ a b, f a b = rotl a b := ⟨_, fun _ _ => rfl⟩
noncomputable def rt : Nat → Nat → Nat := Classical.choose rt_ex
theorem rt_def (a b : Nat) : rt a b = rotl a b := Classical.choose_spec rt_ex a b
theorem vindex_at {t e : TypeId} {n : Nat} {cs : List VV} {k : IntKind} {j : Int} {i : Nat} {r : TR} {v : VV} (ha : arrOf Γ t = some (n, e, 1)) (hr : Γ e = some r) (hg : r.d.agg = false) (hj : j = i) (hi : i < n) (hv : cs[i]? = some v) : vindex Γ t (.agg cs) (.v (.int k j)) = some v := by
  subst hj
  unfold vindex vpart
  simp only [ha, hr, hg, Int.toNat_natCast, Nat.mul_one]
  rw [if_pos (inB_ok (by omega) (by omega))]
  exact hv
theorem vpure_index {t : TypeId} {x i : Operand} {ev : Operand → VV} {v : VV} (h : vindex Γ t (ev x) (ev i) = some v) : vpure Γ (.index t x i) ev = some v := h
def W64 (x : Nat) : Prop := x < 2 ^ 64
theorem xo_lt {a b : Nat} (ha : W64 a) (hb : W64 b) : W64 (xo a b) := by rw [xo_def]; exact Nat.xor_lt_two_pow ha hb
theorem an_lt {a b : Nat} (ha : W64 a) : W64 (an a b) := by rw [an_def]; exact Nat.lt_of_le_of_lt Nat.and_le_left ha
theorem rt_lt {x k : Nat} (hx : W64 x) : W64 (rt x k) := by
  rw [rt_def]
  refine Nat.or_lt_two_pow (Nat.mod_lt _ (by decide)) (Nat.lt_of_le_of_lt (Nat.div_le_self _ _) hx)
/-- The tables: which bits the rounds turn, how far the lanes are turned. -/
def kRounds : List Nat := [1, 32898, 9223372036854808714, 9223372039002292224, 32907, 2147483649, 9223372039002292353, 9223372036854808585, 138, 136, 2147516425, 2147483658, 2147516555, 9223372036854775947, 9223372036854808713, 9223372036854808579, 9223372036854808578, 9223372036854775936, 32778, 9223372039002259466, 9223372039002292353, 9223372036854808704, 2147483649, 9223372039002292232]
def kTurns : List Nat := [0, 1, 62, 28, 27, 36, 44, 6, 55, 20, 3, 10, 43, 25, 39, 41, 45, 15, 21, 8, 18, 2, 61, 56, 14]
def L64 (l : List Nat) (n : Nat) : Prop := l.length = n ∧ ∀ x ∈ l, W64 x
theorem L64_get {l : List Nat} {n : Nat} (h : L64 l n) (i : Nat) : W64 (l.getD i 0) := getD_lt (by decide) h.2 i
theorem L64_set {l : List Nat} {n : Nat} (h : L64 l n) (i : Nat) {x : Nat} (hx : W64 x) : L64 (l.set i x) n := by
  refine ⟨by rw [List.length_set]; exact h.1, fun y hy => ?_⟩
  rcases List.mem_or_eq_of_mem_set hy with h1 | h1
  · exact h.2 y h1
  · rw [h1]; exact hx
section
/-- The column sums behind i lanes. -/
noncomputable def thC (a : List Nat) : Nat → List Nat
  | 0 => [0, 0, 0, 0, 0]
  | i + 1 => (thC a i).set (i % 5) (xo ((thC a i).getD (i % 5) 0) (a.getD i 0))
noncomputable def roV (a c : List Nat) (i : Nat) : Nat := rt (xo (xo (a.getD i 0) (c.getD ((i % 5 + 4) % 5) 0)) (rt (c.getD ((i % 5 + 1) % 5) 0) 1)) (kTurns.getD i 0)
noncomputable def roB (a c : List Nat) : Nat → List Nat
  | 0 => [0, 0, 0, 0, 0, 0, 0, 0, 0, 0, 0, 0, 0, 0, 0, 0, 0, 0, 0, 0, 0, 0, 0, 0, 0]
  | i + 1 => (roB a c i).set (i / 5 + 5 * ((2 * (i % 5) + 3 * (i / 5)) % 5)) (roV a c i)
noncomputable def chV (b : List Nat) (i : Nat) : Nat := xo (b.getD i 0) (an (xo 18446744073709551615 (b.getD ((i % 5 + 1) % 5 + 5 * (i / 5)) 0)) (b.getD ((i % 5 + 2) % 5 + 5 * (i / 5)) 0))
noncomputable def chA (a b : List Nat) : Nat → List Nat
  | 0 => a
  | i + 1 => (chA a b i).set i (chV b i)
noncomputable def thF (a : List Nat) : List Nat := hid (thC a 25)
noncomputable def roF (a c : List Nat) : List Nat := hid (roB a c 25)
noncomputable def chF (a b : List Nat) : List Nat := hid (chA a b 25)
noncomputable def roundK (a : List Nat) (k : Nat) : List Nat := (chF a (roF a (thF a))).set 0 (xo ((chF a (roF a (thF a))).getD 0 0) k)
noncomputable def turnTo (a : List Nat) : Nat → List Nat
  | 0 => a
  | i + 1 => roundK (turnTo a i) (kRounds.getD i 0)
end
theorem thC_ok {a : List Nat} (ha : L64 a 25) : ∀ i, L64 (thC a i) 5
  | 0 => ⟨rfl, by intro x hx; simp only [thC, List.mem_cons, List.not_mem_nil, or_false, or_self] at hx; subst hx; unfold W64; decide⟩
  | i + 1 => L64_set (thC_ok ha i) _ (xo_lt (L64_get (thC_ok ha i) _) (L64_get ha _))
theorem roV_ok {a c : List Nat} (ha : L64 a 25) (hc : L64 c 5) (i : Nat) : W64 (roV a c i) := rt_lt (xo_lt (xo_lt (L64_get ha _) (L64_get hc _)) (rt_lt (L64_get hc _)))
theorem roB_ok {a c : List Nat} (ha : L64 a 25) (hc : L64 c 5) : ∀ i, L64 (roB a c i) 25
  | 0 => ⟨rfl, by intro x hx; simp only [roB, List.mem_cons, List.not_mem_nil, or_false, or_self] at hx; subst hx; unfold W64; decide⟩
  | i + 1 => L64_set (roB_ok ha hc i) _ (roV_ok ha hc i)
theorem chV_ok {b : List Nat} (hb : L64 b 25) (i : Nat) : W64 (chV b i) := xo_lt (L64_get hb _) (an_lt (xo_lt (by unfold W64; decide) (L64_get hb _)))
theorem chA_ok {a b : List Nat} (ha : L64 a 25) (hb : L64 b 25) : ∀ i, L64 (chA a b i) 25
  | 0 => ha
  | i + 1 => L64_set (chA_ok ha hb i) _ (chV_ok hb i)
theorem kRounds_ok : L64 kRounds 24 := ⟨rfl, by unfold W64 kRounds; decide⟩
theorem roundK_ok {a : List Nat} (ha : L64 a 25) {k : Nat} (hk : W64 k) : L64 (roundK a k) 25 := by
  have h : L64 (chF a (roF a (thF a))) 25 := by
    unfold chF roF thF
    rw [hid_eq, hid_eq, hid_eq]
    exact chA_ok ha (roB_ok ha (thC_ok ha 25) 25) 25
  exact L64_set h _ (xo_lt (L64_get h _) hk)
theorem turnTo_ok {a : List Nat} (ha : L64 a 25) : ∀ i, L64 (turnTo a i) 25
  | 0 => ha
  | i + 1 => roundK_ok (turnTo_ok ha i) (L64_get kRounds_ok _)
theorem turnS_ex : ∃ f : List Nat → List Nat, ∀ a, f a = turnTo a 24 := ⟨_, fun _ => rfl⟩
/-- The lanes behind all rounds. -/
noncomputable def turnS : List Nat → List Nat := Classical.choose turnS_ex
theorem turnS_def (a : List Nat) : turnS a = turnTo a 24 := Classical.choose_spec turnS_ex a
theorem turnS_ok {a : List Nat} (ha : L64 a 25) : L64 (turnS a) 25 := by rw [turnS_def]; exact turnTo_ok ha 24
end Go.Proofs.YtidkdlaihmpjfaaDoor
