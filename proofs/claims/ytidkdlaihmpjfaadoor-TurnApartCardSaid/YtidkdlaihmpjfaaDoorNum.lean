import GoSem.Core.Value
namespace Go.Proofs.YtidkdlaihmpjfaaDoor
set_option linter.unusedVariables false
set_option linter.unusedSimpArgs false
set_option linter.unusedSectionVars false

def B64 : Nat := 18446744073709551616
def T256 : Nat := 2 ^ 256
theorem B64_eq : B64 = 2 ^ 64 := by decide
theorem T256_eq : T256 = B64 * B64 * B64 * B64 := by decide
theorem T256_lit : T256 = 115792089237316195423570985008687907853269984665640564039457584007913129639936 := by decide
theorem lim_ex : ∃ f : Nat → Nat → Nat, ∀ n i, f n i = n / B64 ^ i % B64 := ⟨_, fun _ _ => rfl⟩
noncomputable def lim : Nat → Nat → Nat := Classical.choose lim_ex
theorem lim_def (n i : Nat) : lim n i = n / B64 ^ i % B64 := Classical.choose_spec lim_ex n i
theorem lim_lt (n i : Nat) : lim n i < B64 := by rw [lim_def]; exact Nat.mod_lt _ (by decide)
/-- A number below 2^256 as the model holds it. -/
@[reducible] noncomputable def u256 (n : Nat) : Value := .agg #[.int .u64 (lim n 0), .int .u64 (lim n 1), .int .u64 (lim n 2), .int .u64 (lim n 3)]
def val4 (a b c d : Nat) : Nat := a + B64 * b + B64 * B64 * c + B64 * B64 * B64 * d
theorem lim_val4 {a b c d : Nat} (ha : a < B64) (hb : b < B64) (hc : c < B64) (hd : d < B64) :
    lim (val4 a b c d) 0 = a ∧ lim (val4 a b c d) 1 = b ∧ lim (val4 a b c d) 2 = c ∧ lim (val4 a b c d) 3 = d := by
  simp only [lim_def]
  unfold val4
  simp only [B64] at *
  refine ⟨?_, ?_, ?_, ?_⟩ <;> omega
theorem val4_lim {n : Nat} (h : n < T256) : val4 (lim n 0) (lim n 1) (lim n 2) (lim n 3) = n := by
  rw [T256_eq] at h
  simp only [lim_def]
  unfold val4
  simp only [B64] at *
  omega
theorem val4_lt {a b c d : Nat} (ha : a < B64) (hb : b < B64) (hc : c < B64) (hd : d < B64) : val4 a b c d < T256 := by
  rw [T256_eq]
  unfold val4
  simp only [B64] at *
  omega
theorem u256_val4 {a b c d : Nat} (ha : a < B64) (hb : b < B64) (hc : c < B64) (hd : d < B64) :
    u256 (val4 a b c d) = .agg #[.int .u64 a, .int .u64 b, .int .u64 c, .int .u64 d] := by
  obtain ⟨h0, h1, h2, h3⟩ := lim_val4 ha hb hc hd
  unfold u256
  rw [h0, h1, h2, h3]
/-- Every number is its limbs. -/
theorem limbs {n : Nat} (h : n < T256) : ∃ a b c d, a < B64 ∧ b < B64 ∧ c < B64 ∧ d < B64 ∧ n = val4 a b c d :=
  ⟨_, _, _, _, lim_lt n 0, lim_lt n 1, lim_lt n 2, lim_lt n 3, (val4_lim h).symm⟩

theorem addS_ex : ∃ f : Nat → Nat → Nat, ∀ a b, f a b = (a + b) % T256 := ⟨_, fun _ _ => rfl⟩
noncomputable def addS : Nat → Nat → Nat := Classical.choose addS_ex
theorem addS_def (a b : Nat) : addS a b = (a + b) % T256 := Classical.choose_spec addS_ex a b
theorem addO_ex : ∃ f : Nat → Nat → Bool, ∀ a b, f a b = decide (T256 ≤ a + b) := ⟨_, fun _ _ => rfl⟩
noncomputable def addO : Nat → Nat → Bool := Classical.choose addO_ex
theorem addO_def (a b : Nat) : addO a b = decide (T256 ≤ a + b) := Classical.choose_spec addO_ex a b
theorem subS_ex : ∃ f : Nat → Nat → Nat, ∀ a b, f a b = (a + T256 - b) % T256 := ⟨_, fun _ _ => rfl⟩
noncomputable def subS : Nat → Nat → Nat := Classical.choose subS_ex
theorem subS_def (a b : Nat) : subS a b = (a + T256 - b) % T256 := Classical.choose_spec subS_ex a b
theorem subO_ex : ∃ f : Nat → Nat → Bool, ∀ a b, f a b = decide (a < b) := ⟨_, fun _ _ => rfl⟩
noncomputable def subO : Nat → Nat → Bool := Classical.choose subO_ex
theorem subO_def (a b : Nat) : subO a b = decide (a < b) := Classical.choose_spec subO_ex a b
theorem addS_lt (a b : Nat) : addS a b < T256 := by rw [addS_def]; exact Nat.mod_lt _ (by decide)
theorem subS_lt (a b : Nat) : subS a b < T256 := by rw [subS_def]; exact Nat.mod_lt _ (by decide)

def acc (x y c : Nat) : Nat := (x + y + c) % B64
def car (x y c : Nat) : Nat := (x + y + c) / B64
theorem acc_lt (x y c : Nat) : acc x y c < B64 := Nat.mod_lt _ (by decide)
theorem car_le {x y c : Nat} (hx : x < B64) (hy : y < B64) (hc : c ≤ 1) : car x y c ≤ 1 := by
  unfold car; simp only [B64] at *; omega
theorem acc_car (x y c : Nat) : x + y + c = acc x y c + B64 * car x y c := (Nat.mod_add_div _ _).symm
theorem add_val4 {a0 a1 a2 a3 b0 b1 b2 b3 s0 s1 s2 s3 c1 c2 c3 c4 : Nat}
    (l0 : s0 < B64) (l1 : s1 < B64) (l2 : s2 < B64) (l3 : s3 < B64) (lc : c4 ≤ 1)
    (e0 : a0 + b0 + 0 = s0 + B64 * c1) (e1 : a1 + b1 + c1 = s1 + B64 * c2) (e2 : a2 + b2 + c2 = s2 + B64 * c3) (e3 : a3 + b3 + c3 = s3 + B64 * c4) :
    addS (val4 a0 a1 a2 a3) (val4 b0 b1 b2 b3) = val4 s0 s1 s2 s3 ∧ addO (val4 a0 a1 a2 a3) (val4 b0 b1 b2 b3) = (c4 == 1) := by
  have hl := val4_lt l0 l1 l2 l3
  have e : val4 a0 a1 a2 a3 + val4 b0 b1 b2 b3 = val4 s0 s1 s2 s3 + T256 * c4 := by
    rw [T256_eq]; unfold val4; simp only [B64] at *; omega
  rw [addS_def, addO_def]
  rw [e]
  have h : c4 = 0 ∨ c4 = 1 := by omega
  rcases h with rfl | rfl
  · refine ⟨by simp [Nat.mod_eq_of_lt hl], by simp; omega⟩
  · refine ⟨by simp [Nat.mod_eq_of_lt hl], by simp⟩
def dif (x y b : Nat) : Nat := (x + B64 - y - b) % B64
def bor (x y b : Nat) : Nat := if x < y + b then 1 else 0
theorem dif_lt (x y b : Nat) : dif x y b < B64 := Nat.mod_lt _ (by decide)
theorem bor_le (x y b : Nat) : bor x y b ≤ 1 := by unfold bor; split <;> omega
theorem dif_bor {x y b : Nat} (hx : x < B64) (hy : y < B64) (hb : b ≤ 1) : x + B64 * bor x y b = y + b + dif x y b := by
  unfold bor dif; simp only [B64] at *; split <;> omega
theorem sub_val4 {a0 a1 a2 a3 b0 b1 b2 b3 : Nat} (k0 : a0 < B64) (k1 : a1 < B64) (k2 : a2 < B64) (k3 : a3 < B64) (m0 : b0 < B64) (m1 : b1 < B64) (m2 : b2 < B64) (m3 : b3 < B64) :
    subS (val4 a0 a1 a2 a3) (val4 b0 b1 b2 b3) = val4 (dif a0 b0 0) (dif a1 b1 (bor a0 b0 0)) (dif a2 b2 (bor a1 b1 (bor a0 b0 0))) (dif a3 b3 (bor a2 b2 (bor a1 b1 (bor a0 b0 0)))) ∧
    subO (val4 a0 a1 a2 a3) (val4 b0 b1 b2 b3) = (bor a3 b3 (bor a2 b2 (bor a1 b1 (bor a0 b0 0))) == 1) := by
  have e0 := dif_bor k0 m0 (b := 0) (by omega)
  have e1 := dif_bor k1 m1 (bor_le a0 b0 0)
  have e2 := dif_bor k2 m2 (bor_le a1 b1 (bor a0 b0 0))
  have e3 := dif_bor k3 m3 (bor_le a2 b2 (bor a1 b1 (bor a0 b0 0)))
  have hl := val4_lt (dif_lt a0 b0 0) (dif_lt a1 b1 (bor a0 b0 0)) (dif_lt a2 b2 (bor a1 b1 (bor a0 b0 0))) (dif_lt a3 b3 (bor a2 b2 (bor a1 b1 (bor a0 b0 0))))
  have la := val4_lt k0 k1 k2 k3
  have lb := val4_lt m0 m1 m2 m3
  have hc := bor_le a3 b3 (bor a2 b2 (bor a1 b1 (bor a0 b0 0)))
  generalize bor a3 b3 (bor a2 b2 (bor a1 b1 (bor a0 b0 0))) = c4 at *
  generalize dif a3 b3 (bor a2 b2 (bor a1 b1 (bor a0 b0 0))) = d3 at *
  generalize bor a2 b2 (bor a1 b1 (bor a0 b0 0)) = c3 at *
  generalize dif a2 b2 (bor a1 b1 (bor a0 b0 0)) = d2 at *
  generalize bor a1 b1 (bor a0 b0 0) = c2 at *
  generalize dif a1 b1 (bor a0 b0 0) = d1 at *
  generalize bor a0 b0 0 = c1 at *
  generalize dif a0 b0 0 = d0 at *
  have e : val4 a0 a1 a2 a3 + T256 * c4 = val4 b0 b1 b2 b3 + val4 d0 d1 d2 d3 := by
    rw [T256_eq]; unfold val4; simp only [B64] at *; omega
  generalize val4 a0 a1 a2 a3 = A at *
  generalize val4 b0 b1 b2 b3 = B at *
  generalize val4 d0 d1 d2 d3 = D at *
  rw [subS_def, subO_def]
  have h : c4 = 0 ∨ c4 = 1 := by omega
  rcases h with rfl | rfl
  · refine ⟨?_, by simp; omega⟩
    rw [show A + T256 - B = D + T256 by omega, Nat.add_mod_right, Nat.mod_eq_of_lt hl]
  · refine ⟨?_, by simp; omega⟩
    rw [show A + T256 - B = D by omega, Nat.mod_eq_of_lt hl]
theorem beq_one (n : Nat) : ((n : Int) == 1) = (n == 1) := by
  rw [Bool.eq_iff_iff]; simp only [beq_iff_eq]; omega
end Go.Proofs.YtidkdlaihmpjfaaDoor
