/- Keccak, reckoned by the kernel. -/
import Derived.Test.YtidkdlaihmpjfaaDoorVSpAdd
namespace Go.Proofs.YtidkdlaihmpjfaaDoor
set_option linter.unusedVariables false
set_option linter.unusedSimpArgs false
set_option linter.unusedSectionVars false
open Go.ChangeShapes Go.WideShapes Go.ChangeAt Go.RowKit Go.Joins
set_option maxRecDepth 10000
noncomputable def fN {α : Type} (n : Nat) (f : Nat → α) : α := @Nat.rec (fun _ => α) (f 0) (fun k _ => f (Nat.succ k)) n
theorem fN_eq {α : Type} (n : Nat) (f : Nat → α) : fN n f = f n := by cases n <;> rfl
/-- A list, its numbers reckoned. -/
noncomputable def fL {α : Type} (l : List Nat) : (List Nat → α) → α := @List.rec Nat (fun _ => (List Nat → α) → α) (fun f => f []) (fun x _ ih f => fN x fun y => ih fun m => f (y :: m)) l
theorem fL_eq {α : Type} : ∀ (l : List Nat) (f : List Nat → α), fL l f = f l
  | [], _ => rfl
  | x :: l, f => by
    show fN x (fun y => fL l fun m => f (y :: m)) = _
    rw [fN_eq, fL_eq]
def eC (a : List Nat) : Nat → List Nat
  | 0 => [0, 0, 0, 0, 0]
  | i + 1 => (eC a i).set (i % 5) (Nat.xor ((eC a i).getD (i % 5) 0) (a.getD i 0))
def eV (a c : List Nat) (i : Nat) : Nat := rotl (Nat.xor (Nat.xor (a.getD i 0) (c.getD ((i % 5 + 4) % 5) 0)) (rotl (c.getD ((i % 5 + 1) % 5) 0) 1)) (kTurns.getD i 0)
def eB (a c : List Nat) : Nat → List Nat
  | 0 => [0, 0, 0, 0, 0, 0, 0, 0, 0, 0, 0, 0, 0, 0, 0, 0, 0, 0, 0, 0, 0, 0, 0, 0, 0]
  | i + 1 => (eB a c i).set (i / 5 + 5 * ((2 * (i % 5) + 3 * (i / 5)) % 5)) (eV a c i)
def eX (b : List Nat) (i : Nat) : Nat := Nat.xor (b.getD i 0) (Nat.land (Nat.xor 18446744073709551615 (b.getD ((i % 5 + 1) % 5 + 5 * (i / 5)) 0)) (b.getD ((i % 5 + 2) % 5 + 5 * (i / 5)) 0))
def eA (a b : List Nat) : Nat → List Nat
  | 0 => a
  | i + 1 => (eA a b i).set i (eX b i)
theorem eC_eq (a : List Nat) : ∀ i, thC a i = eC a i
  | 0 => rfl
  | i + 1 => by simp only [thC, eC, eC_eq a i, xo_def]; rfl
theorem eB_eq (a c : List Nat) : ∀ i, roB a c i = eB a c i
  | 0 => rfl
  | i + 1 => by simp only [roB, eB, eB_eq a c i, roV, eV, xo_def, rt_def]; rfl
theorem eA_eq (a b : List Nat) : ∀ i, chA a b i = eA a b i
  | 0 => rfl
  | i + 1 => by simp only [chA, eA, eA_eq a b i, chV, eX, xo_def, an_def]; rfl
noncomputable def eR {α : Type} (a : List Nat) (k : Nat) (f : List Nat → α) : α := fL (eC a 25) fun c => fL (eB a c 25) fun b => fL (eA a b 25) fun d => fL (d.set 0 (Nat.xor (d.getD 0 0) k)) f
theorem eR_eq {α : Type} (a : List Nat) (k : Nat) (f : List Nat → α) : eR a k f = f (roundK a k) := by
  unfold eR roundK chF roF thF
  simp only [fL_eq, hid_eq, eC_eq, eB_eq, eA_eq, xo_def]
  rfl
noncomputable def eT {α : Type} (ks : List Nat) : List Nat → (List Nat → α) → α := @List.rec Nat (fun _ => List Nat → (List Nat → α) → α) (fun a f => f a) (fun k _ ih a f => eR a k fun b => ih b f) ks
theorem eT_eq {α : Type} : ∀ (ks a : List Nat) (f : List Nat → α), eT ks a f = f (ks.foldl roundK a)
  | [], _, _ => rfl
  | k :: ks, a, f => by
    show eR a k (fun b => eT ks b f) = _
    rw [eR_eq, eT_eq]; rfl
theorem turnTo_fold (a : List Nat) : ∀ i, i ≤ 24 → turnTo a i = (kRounds.take i).foldl roundK a
  | 0, _ => rfl
  | i + 1, h => by
    have hi : i < kRounds.length := by have := kRounds_ok.1; omega
    rw [List.take_succ_eq_append_getElem hi, List.foldl_append, ← turnTo_fold a i (by omega)]
    simp only [turnTo, List.foldl_cons, List.foldl_nil]
    simp [List.getD, List.getElem?_eq_getElem hi]
noncomputable def eTurn {α : Type} (a : List Nat) (f : List Nat → α) : α := eT kRounds a f
theorem eTurn_eq {α : Type} (a : List Nat) (f : List Nat → α) : eTurn a f = f (turnS a) := by
  unfold eTurn
  rw [eT_eq, turnS_def, turnTo_fold a 24 (Nat.le_refl _)]
  rfl
def eS (l h : List Nat) : Nat → List Nat
  | 0 => l
  | i + 1 => (eS l h i).set (i / 8) (Nat.xor ((eS l h i).getD (i / 8) 0) (h.getD i 0 * 2 ^ (8 * (i % 8))))
theorem eS_eq (l h : List Nat) : ∀ i, soTo l h i = eS l h i
  | 0 => rfl
  | i + 1 => by simp only [soTo, eS, eS_eq l h i, xo_def]; rfl
/-- The sum of fewer than 136 bytes. -/
noncomputable def eSum {α : Type} (b : List Nat) (f : List Nat → α) : α :=
  fL ((((b ++ zB (136 - b.length)).set b.length 1).set 135 (Nat.lor (((b ++ zB (136 - b.length)).set b.length 1).getD 135 0) 128))) fun h => fL (eS (zB 25) h 136) fun l => eTurn l fun t => fL (outB t 32) f
theorem spAdd_few : ∀ (b c : List Nat), c.length + b.length < 136 → spAdd ⟨zB 25, c ++ zB (136 - c.length), c.length⟩ b = ⟨zB 25, (c ++ b) ++ zB (136 - (c ++ b).length), (c ++ b).length⟩
  | [], c, _ => by simp [spAdd]
  | x :: b, c, h => by
    have h1 : spStep ⟨zB 25, c ++ zB (136 - c.length), c.length⟩ x = ⟨zB 25, (c ++ [x]) ++ zB (136 - (c ++ [x]).length), (c ++ [x]).length⟩ := by
      unfold spStep
      simp only [List.length_cons] at h
      rw [if_neg (by show ¬ c.length + 1 = 136; omega)]
      have e : zB (136 - c.length) = 0 :: zB (136 - (c.length + 1)) := by
        unfold zB
        rw [show 136 - c.length = (136 - (c.length + 1)) + 1 by omega, List.replicate_succ]
      congr 1
      · show (c ++ zB (136 - c.length)).set c.length x = _
        rw [e, List.set_append_right _ _ (Nat.le_refl _), Nat.sub_self, List.set_cons_zero]
        simp
      · simp
    show spAdd (spStep _ x) b = _
    rw [h1, spAdd_few b (c ++ [x]) (by simp at h ⊢; omega)]
    simp
theorem eSum_eq {α : Type} {b : List Nat} (hb : b.length < 136) (f : List Nat → α) : eSum b f = f (kSum b) := by
  have h1 := spAdd_few b [] (by simpa using hb)
  simp only [List.nil_append, List.length_nil, Nat.sub_zero] at h1
  unfold eSum kSum spEnd endH soF
  rw [h1]
  simp only [fL_eq, eTurn_eq, hid_eq, eS_eq]
  rfl
theorem known_empty : (kSum []).take 8 = [197, 210, 70, 1, 134, 247, 35, 60] := by
  have h := eSum_eq (b := []) (by decide) (fun o => decide (o.take 8 = [197, 210, 70, 1, 134, 247, 35, 60]))
  exact of_decide_eq_true (h.symm.trans (by kernel_rfl))
theorem known_abc : (kSum [97, 98, 99]).take 8 = [78, 3, 101, 122, 234, 69, 169, 79] := by
  have h := eSum_eq (b := [97, 98, 99]) (by decide) (fun o => decide (o.take 8 = [78, 3, 101, 122, 234, 69, 169, 79]))
  exact of_decide_eq_true (h.symm.trans (by kernel_rfl))
end Go.Proofs.YtidkdlaihmpjfaaDoor
