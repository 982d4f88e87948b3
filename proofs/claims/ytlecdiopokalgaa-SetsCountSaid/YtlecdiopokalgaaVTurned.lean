/- basculekeep.turned, by the engine. -/
import Derived.Test.YtlecdiopokalgaaVTurnN
import Derived.Test.YtlecdiopokalgaaVSetL
import Derived.Test.YtlecdiopokalgaaBUc
namespace Go.Proofs.Ytlecdiopokalgaa
set_option linter.unusedVariables false
set_option linter.unusedSimpArgs false
set_option linter.unusedSectionVars false
open Go.ChangeShapes Go.WideShapes Go.ChangeAt Go.RowKit Go.Joins
set_option maxRecDepth 10000
structure TurS where
  now : Nat
  L : List SetD
  A : List Nat
def turnB (r : RawD) : Nat := (r.b % 256).toNat
def turnG (i : Nat) (r : RawD) (p : TurS) : TurS := ⟨p.now + (r.a % 40).toNat, turnL p.L (turnK i (turnB r)) (p.now + (r.a % 40).toNat), p.A ++ [p.now + (r.a % 40).toNat]⟩
def turnS (l : List RawD) : Nat → TurS
  | 0 => ⟨1, [⟨0, [keyA 1 0], 0⟩], []⟩
  | i + 1 => match l[i]? with
    | some r => turnG i r (turnS l i)
    | none => turnS l i
theorem turnS_next {l : List RawD} {i : Nat} (h : i < l.length) : turnS l (i + 1) = turnG i l[i] (turnS l i) := by
  rw [turnS, List.getElem?_eq_getElem h]
theorem turnG_ok {i : Nat} {r : RawD} {p : TurS} (hi : i < 7) (h : TurnOk i p.now p.L p.A) : TurnOk (i + 1) (turnG i r p).now (turnG i r p).L (turnG i r p).A := by
  have := Int.emod_lt_of_pos r.a (show (0 : Int) < 40 by decide)
  have := Int.emod_nonneg r.a (show (40 : Int) ≠ 0 by decide)
  exact turn_next h hi (Nat.le_add_right _ _) (by show _ + _ ≤ _; omega)
theorem turnS_ok (l : List RawD) (hl : l.length ≤ 7) : ∀ (i : Nat), i ≤ l.length → TurnOk i (turnS l i).now (turnS l i).L (turnS l i).A
  | 0, _ => turn_first
  | i + 1, h => by
    rw [turnS_next (show i < l.length by omega)]
    exact turnG_ok (by omega) (turnS_ok l hl i (by omega))
theorem keyA_1 : KeysOk [keyA 1 0] := turn_first.sets.keys _ (List.mem_singleton.2 rfl)
def intsA (A : List Nat) : List VV := A.map fun (n : Nat) => nI .i64 n
theorem intsA_noHs (A : List Nat) : noHs (intsA A) = true := by
  unfold intsA
  induction A with
  | nil => rfl
  | cons a A ih => rw [List.map_cons]; simp only [noHs, noH, nI, Bool.true_and]; exact ih
theorem turned_fn {l : List RawD} (hl : l.length ≤ maxLen) (hok : ∀ r ∈ l, r.ok) (l' : List RawD) (e' : l' = l.take 7) : FnV Try.prog G0 19 [.ds false l.length (rawsC l)] (.tup [.ds false (turnS l' l'.length).L.length (rows SetD.cells (turnS l' l'.length).L), .ds false (turnS l' l'.length).A.length (intsA (turnS l' l'.length).A), bI true]) := by
  obtain ⟨f', so⟩ := some_fn false l 7 hl (by decide)
  rw [← e'] at so
  have hl' : l'.length ≤ 7 := by rw [e', List.length_take]; exact Nat.min_le_left _ _
  have hok' : ∀ r ∈ l', r.ok := fun r hr => hok r (List.mem_of_mem_take (e' ▸ hr))
  clear e'
  have bg := sbegin_fn keyA_1
  have nR : noHs (rawsC l) = true := rawsC_noHs _
  have nR' : noHs (rawsC l') = true := rawsC_noHs _
  refine fn_of_vwp Γok Try.func19 (by kernel_rfl) rfl (by simp [Try.ntmps19]) (wpv_ok Γok (by kernel_rfl) _ _ _ ?_); conv => whnf
  refine .read 1 (rows bts [keyA 1 0]) rfl rfl rfl (rows_noHs bts_noHs _) ?_
  conv => whnf
  try (refine ⟨by kernel_rfl, ?_⟩; conv => whnf)
  refine ⟨_, ret_of_fn G0ok (bg) (by first | rfl | simp only [noHs, noH, nI, bI, Bool.and_self, Bool.and_true, Bool.true_and, rows_noHs bts_noHs _]) (by first | rfl | simp only [noHs, noH, nI, bI, Bool.and_self, Bool.and_true, Bool.true_and, rows_noHs bts_noHs _]), ?_⟩; (conv => whnf); (try (refine ⟨by kernel_rfl, ?_⟩; conv => whnf))
  refine ⟨_, ret_of_fn G0ok (so) (by first | rfl | simp only [noHs, noH, nI, bI, Bool.and_self, Bool.and_true, Bool.true_and, nR, nR']) (by first | rfl | simp only [noHs, noH, nI, bI, Bool.and_self, Bool.and_true, Bool.true_and, nR, nR']), ?_⟩; (conv => whnf); (try (refine ⟨by kernel_rfl, ?_⟩; conv => whnf))
  refine vloop_invK G0ok [(0, none)] 1 (X := Nat)
    (fun i => [(22, nI .i64 i), (21, nI .i64 l'.length), (20, .ds f' l'.length (rawsC l')), (8, .sl 0 0 i 1), (7, nI .i64 (turnS l' i).now), (6, nI .i64 0), (5, .ds false (turnS l' i).L.length (rows SetD.cells (turnS l' i).L))])
    (fun i => [(0, some (intsA (turnS l' i).A))])
    (fun i => i ≤ l'.length) (fun i => l'.length - i) 0 rfl ⟨⟨_, rfl, conv_nI (rfl)⟩, ⟨_, rfl, conv_nI (rfl)⟩, ⟨_, rfl, conv_eq rfl (nR')⟩, ⟨_, rfl, .null rfl⟩, ⟨_, rfl, conv_nI (rfl)⟩, ⟨_, rfl, conv_nI (rfl)⟩, ⟨_, rfl, conv_eq rfl (rows_noHs setD_noHs _)⟩, trivial⟩ ⟨.inl ⟨rfl, rfl⟩, trivial⟩ (Nat.zero_le _) ?_
  intro i hi
  dsimp only at hi ⊢
  refine wpv_ok Γok (by kernel_rfl) _ _ _ ?_; conv => whnf
  have ok := turnS_ok l' hl' i hi
  refine bool_cases (fun hc => ?_) (fun hc => ?_)
  · have hc := of_decide_eq_true hc
    have hc : i < l'.length := by omega
    have nx := turnS_next hc
    have rok := hok' _ (List.getElem_mem hc)
    conv => whnf
    try (refine ⟨by kernel_rfl, ?_⟩; conv => whnf)
    refine bindP_intro (if_pos (inB_ok (by omega) (by omega))) ?_; conv => whnf
    refine bindP_intro (raw_load (i := i) rfl rfl rfl (by dsimp only; omega) hc) ?_
    refine gen_ex l'[i] fun r er => ?_
    rw [← er] at nx rok ⊢
    clear er
    refine gen_ex (turnS l' (i + 1)) fun q eq => ?_
    rw [← eq] at nx
    refine gen_ex (turnS l' i) fun p ep => ?_
    rw [← ep] at nx ok ⊢
    have am := Int.emod_lt_of_pos r.a (show (0 : Int) < 40 by decide)
    have an := Int.emod_nonneg r.a (show (40 : Int) ≠ 0 by decide)
    have n2 := ok.n2
    have n1 := ok.n1
    have qn : q.now = p.now + (r.a % 40).toNat := by rw [nx]; rfl
    have qL : q.L = turnL p.L (turnK i (turnB r)) q.now := by rw [qn, nx]; rfl
    have qA : q.A = p.A ++ [q.now] := by rw [qn, nx]; rfl
    have ll := turn_len p.L (turnK i (turnB r)) q.now
    rw [← qL, ok.len] at ll
    have st := sturn_fn (f := false) ok.sets (turnK_ok i (turnB r)) (now := q.now) (by omega) (by omega) (by rw [ok.len]; omega) (turn_prev ok (by omega))
    rw [← qL, show p.L.length + 1 = q.L.length from by rw [ok.len, ll]] at st
    have al : (intsA p.A).length = i := by unfold intsA; rw [List.length_map, ok.alen]
    have eA : intsA q.A = intsA p.A ++ [nI .i64 q.now] := by rw [qA]; unfold intsA; rw [List.map_append]; rfl
    have nP : noHs (rows SetD.cells p.L) = true := rows_noHs setD_noHs _
    have nQ : noHs (rows SetD.cells q.L) = true := rows_noHs setD_noHs _
    have nK : noHs (rows bts (turnK i (turnB r))) = true := rows_noHs bts_noHs _
    clear nx qL qA
    unfold RawD.v RawD.cells
    conv => whnf
    try (refine ⟨by kernel_rfl, ?_⟩; conv => whnf)
    refine ⟨_, ret_of_fn G0ok (picked_fn r.a 40 (by decide) (by decide)) (by first | rfl | simp only [noHs, noH, nI, bI, Bool.and_self, Bool.and_true, Bool.true_and, ]) (by first | rfl | simp only [noHs, noH, nI, bI, Bool.and_self, Bool.and_true, Bool.true_and, ]), ?_⟩; (conv => whnf); (try (refine ⟨by kernel_rfl, ?_⟩; conv => whnf))
    rw [ws_i64 (x := (p.now : Int) + r.a % 40) (by omega) (by omega), show (p.now : Int) + r.a % 40 = (q.now : Int) from by omega]
    conv => whnf
    try (refine ⟨by kernel_rfl, ?_⟩; conv => whnf)
    rw [ws_i64 (x := (i : Int) + 2) (by omega) (by omega), show wS .u8 ((i : Int) + 2) = ((i + 2 : Nat) : Int) from by rw [ws_u8]; omega, show wS .u8 r.b = ((turnB r : Nat) : Int) from by rw [ws_u8]; unfold turnB; omega]
    conv => whnf
    try (refine ⟨by kernel_rfl, ?_⟩; conv => whnf)
    refine .read 2 (rows bts (turnK i (turnB r))) rfl rfl rfl nK ?_
    conv => whnf
    try (refine ⟨by kernel_rfl, ?_⟩; conv => whnf)
    refine ⟨_, ret_of_fn G0ok (st) (by first | rfl | simp only [noHs, noH, nI, bI, Bool.and_self, Bool.and_true, Bool.true_and, nP, nK, nQ]) (by first | rfl | simp only [noHs, noH, nI, bI, Bool.and_self, Bool.and_true, Bool.true_and, nP, nK, nQ]), ?_⟩; (conv => whnf); (try (refine ⟨by kernel_rfl, ?_⟩; conv => whnf))
    refine .ownAs 1 [nI .i64 q.now] rfl rfl ?_
    conv => whnf
    try (refine ⟨by kernel_rfl, ?_⟩; conv => whnf)
    refine onlyIf_intro (by show (Nat.beq (intsA p.A).length _ && _) = true; rw [al]; simp [maxLen]; omega) ?_
    refine .ownAs (i + 1) (intsA q.A) rfl eA.symm ?_
    conv => whnf
    try (refine ⟨by kernel_rfl, ?_⟩; conv => whnf)
    subst eq
    refine next_round (y := i) G0ok (i + 1) [(0, some 4)] rfl ⟨⟨_, rfl, conv_nI (ws_i64 (by omega) (by omega))⟩, ⟨_, rfl, conv_nI (rfl)⟩, ⟨_, rfl, conv_eq rfl (nR')⟩, ⟨_, rfl, .sl rfl⟩, ⟨_, rfl, conv_nI (rfl)⟩, ⟨_, rfl, conv_nI (rfl)⟩, ⟨_, rfl, conv_eq rfl (nQ)⟩, trivial⟩ ⟨.inr ⟨_, _, rfl, rfl, .same (intsA_noHs _)⟩, trivial⟩ (by omega) (by omega)
  · have hc := of_decide_eq_false hc
    have e : i = l'.length := by omega
    subst e
    conv => whnf
    try (refine ⟨by kernel_rfl, ?_⟩; conv => whnf)
    rw [ws_i64 (x := (l'.length : Int) + 1) (by omega) (by omega), ok.len, ok.alen, show (((l'.length + 1 : Nat) : Int) == (l'.length : Int) + 1) = true from beq_self_eq_true _]
    conv => whnf
    try (refine ⟨by kernel_rfl, ?_⟩; conv => whnf)
    exact ⟨_, rfl, deep_tup (mapO_cons (deepV_noH _ _ (rows_noHs setD_noHs _)) (mapO_cons (deep_row (cs := intsA (turnS l' l'.length).A) rfl (by unfold intsA; rw [List.length_map, ok.alen, Nat.mul_one]) (intsA_noHs _)) (mapO_cons (deepV_noH _ _ rfl) mapO_nil)))⟩
end Go.Proofs.Ytlecdiopokalgaa
