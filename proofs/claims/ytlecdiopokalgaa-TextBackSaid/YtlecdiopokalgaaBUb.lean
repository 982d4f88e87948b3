/- paper's eye reads a message, by the engine. -/
import Derived.Test.YtlecdiopokalgaaBUa
namespace Go.Proofs.Ytlecdiopokalgaa
set_option linter.unusedVariables false
set_option linter.unusedSimpArgs false
set_option linter.unusedSectionVars false
open Go.ChangeShapes Go.WideShapes Go.ChangeAt Go.RowKit Go.Joins
set_option maxRecDepth 10000
/-- A message as it is read: its numbers may be outside their bounds. -/
structure BoI where
  time : Int
  nonce : Int
  chain : Int
  em : List Nat
  num : Int
  level : Int
  load : List Nat
def bC (t n c : Int) (em : List Nat) (x y z : VV) : List VV := nI .i64 t :: nI .i64 n :: nI .i64 c :: (bts em ++ [x, y, z])
def BoI.cells (b : BoI) : List VV := bC b.time b.nonce b.chain b.em (nI .i64 b.num) (nI .i64 b.level) (.ds false b.load.length (bts b.load))
def BoI.v (b : BoI) : VV := .agg b.cells
theorem bC_noHs {t n c : Int} {em : List Nat} {x y z : VV} (hx : noH x = true) (hy : noH y = true) (hz : noH z = true) : noHs (bC t n c em x y z) = true := by
  unfold bC
  simp only [noHs, noH, nI, noHs_append, bts_noHs, hx, hy, hz, Bool.and_self]
theorem bC_len {t n c : Int} {em : List Nat} {x y z : VV} (he : em.length = 32) : (bC t n c em x y z).length = 38 := by
  unfold bC
  simp only [List.length_cons, List.length_append, bts_length, he]
  rfl
theorem bC_set {t n c : Int} {em : List Nat} {x y z v : VV} (he : em.length = 32) : (bC t n c em x y z).set 35 v = bC t n c em v y z ∧ (bC t n c em x y z).set 36 v = bC t n c em x v z ∧ (bC t n c em x y z).set 37 v = bC t n c em x y v := by
  have h := fun i (w : VV) => List.set_append_right (s := bts em) (t := [x, y, z]) (32 + i) w (by rw [bts_length, he]; omega)
  rw [bts_length, he] at h
  have g := fun i (w : VV) (r : List VV) (e : (bts em ++ [x, y, z]).set (32 + i) w = bts em ++ r) => show (nI .i64 t :: nI .i64 n :: nI .i64 c :: (bts em ++ [x, y, z])).set (35 + i) w = nI .i64 t :: nI .i64 n :: nI .i64 c :: (bts em ++ r) from by
    rw [show 35 + i = (32 + i) + 1 + 1 + 1 by omega, List.set_cons_succ, List.set_cons_succ, List.set_cons_succ, e]
  exact ⟨g 0 v [v, y, z] (h 0 v), g 1 v [x, v, z] (h 1 v), g 2 v [x, y, v] (h 2 v)⟩
theorem bC_35 {t n c : Int} {em : List Nat} {x y z v : VV} {i : Nat} (he : em.length = 32) (hi : i = 35) : (bC t n c em x y z).set i v = bC t n c em v y z := by subst hi; exact (bC_set he).1
theorem bC_36 {t n c : Int} {em : List Nat} {x y z v : VV} {i : Nat} (he : em.length = 32) (hi : i = 36) : (bC t n c em x y z).set i v = bC t n c em x v z := by subst hi; exact (bC_set he).2.1
theorem bC_37 {t n c : Int} {em : List Nat} {x y z v : VV} {i : Nat} (he : em.length = 32) (hi : i = 37) : (bC t n c em x y z).set i v = bC t n c em x y v := by subst hi; exact (bC_set he).2.2
theorem fold_bC (t n c : Int) (em : List Nat) (x y z : VV) {cs : List VV} {off : Nat} (h1 : cs.take off = [nI .i64 t, nI .i64 n, nI .i64 c]) (h2 : cs.drop (off + 32) = [x, y, z]) : cs.take off ++ (bts em ++ cs.drop (off + 32)) = bC t n c em x y z := by
  rw [h1, h2]
  rfl
noncomputable def rdN (s : EyS) (n : Nat) : Int := wS .i64 (beV (s.take n).1 : Nat)
noncomputable def rdB (s : EyS) : BoI × EyS :=
  (⟨rdN s 8, rdN (s.take 8).2 4, rdN ((s.take 8).2.take 4).2 2, ((((s.take 8).2.take 4).2.take 2).2.take 32).1, rdN ((((s.take 8).2.take 4).2.take 2).2.take 32).2 8, rdN (((((s.take 8).2.take 4).2.take 2).2.take 32).2.take 8).2 1, ((((((s.take 8).2.take 4).2.take 2).2.take 32).2.take 8).2.take 1).2.l⟩,
    ((((((s.take 8).2.take 4).2.take 2).2.take 32).2.take 8).2.take 1).2)
theorem EyS.take_le (s : EyS) (n : Nat) : (s.take n).2.l.length ≤ s.l.length := by
  unfold EyS.take
  split
  · exact Nat.zero_le _
  · rw [List.length_drop]; omega
theorem rdbody_fn {f : Bool} (s : EyS) (hl : s.l.length ≤ 140737488355328) (hb : ∀ x ∈ s.l, x < 256) : ∃ g', FnH Try.prog G0 52 [.ptr 0 0] [(0, some (eyeC f s))] 1 (rdB s).1.v [(0, some (eyeC g' (rdB s).2))] 0 := by
  have hM : 140737488355328 ≤ maxLen := by decide
  unfold rdB
  dsimp only
  obtain ⟨g1, t1⟩ := rnum_fn (f := f) s (n := 8) (by decide) (by omega) hb
  have l1 := s.take_le 8
  have b1 := (EyS.take_lt hb 8).2
  have e1 : wS .i64 (beV (s.take 8).1 : Nat) = rdN s 8 := rfl
  rw [e1] at t1
  refine gen_ex (rdN s 8) fun v1 x1 => ?_
  rw [← x1] at t1 ⊢
  clear x1 e1
  refine gen_ex (s.take 8).2 fun s1 y1 => ?_
  rw [← y1] at t1 l1 b1 ⊢
  clear y1
  obtain ⟨g2, t2⟩ := rnum_fn (f := g1) s1 (n := 4) (by decide) (by omega) b1
  have l2 := s1.take_le 4
  have b2 := (EyS.take_lt b1 4).2
  rw [show wS .i64 (beV (s1.take 4).1 : Nat) = rdN s1 4 from rfl] at t2
  refine gen_ex (rdN s1 4) fun v2 x2 => ?_
  rw [← x2] at t2 ⊢
  clear x2
  refine gen_ex (s1.take 4).2 fun s2 y2 => ?_
  rw [← y2] at t2 l2 b2 ⊢
  clear y2
  obtain ⟨g3, t3⟩ := rnum_fn (f := g2) s2 (n := 2) (by decide) (by omega) b2
  have l3 := s2.take_le 2
  have b3 := (EyS.take_lt b2 2).2
  rw [show wS .i64 (beV (s2.take 2).1 : Nat) = rdN s2 2 from rfl] at t3
  refine gen_ex (rdN s2 2) fun v3 x3 => ?_
  rw [← x3] at t3 ⊢
  clear x3
  refine gen_ex (s2.take 2).2 fun s3 y3 => ?_
  rw [← y3] at t3 l3 b3 ⊢
  clear y3
  obtain ⟨g4, t4⟩ := rword_fn (f := g3) s3 (by omega)
  have l4 := s3.take_le 32
  have b4 := (EyS.take_lt b3 32).2
  have w4 := s3.take_len 32
  refine gen_ex (s3.take 32).1 fun v4 x4 => ?_
  rw [← x4] at t4 w4 ⊢
  clear x4
  refine gen_ex (s3.take 32).2 fun s4 y4 => ?_
  rw [← y4] at t4 l4 b4 ⊢
  clear y4
  obtain ⟨g5, t5⟩ := rnum_fn (f := g4) s4 (n := 8) (by decide) (by omega) b4
  have l5 := s4.take_le 8
  have b5 := (EyS.take_lt b4 8).2
  rw [show wS .i64 (beV (s4.take 8).1 : Nat) = rdN s4 8 from rfl] at t5
  refine gen_ex (rdN s4 8) fun v5 x5 => ?_
  rw [← x5] at t5 ⊢
  clear x5
  refine gen_ex (s4.take 8).2 fun s5 y5 => ?_
  rw [← y5] at t5 l5 b5 ⊢
  clear y5
  obtain ⟨g6, t6⟩ := rnum_fn (f := g5) s5 (n := 1) (by decide) (by omega) b5
  have l6 := s5.take_le 1
  rw [show wS .i64 (beV (s5.take 1).1 : Nat) = rdN s5 1 from rfl] at t6
  refine gen_ex (rdN s5 1) fun v6 x6 => ?_
  rw [← x6] at t6 ⊢
  clear x6
  refine gen_ex (s5.take 1).2 fun s6 y6 => ?_
  rw [← y6] at t6 l6 ⊢
  clear y6
  refine ⟨g6, ?_⟩
  have lw : (bts v4).length = 32 := by rw [bts_length, w4]
  have ls : (bts s6.l).length = s6.l.length := bts_length _
  unfold BoI.v BoI.cells
  dsimp only
  refine fnH_of_vwp Γok G0ok Try.func52 (by kernel_rfl) rfl (by simp [Try.ntmps52]) (wpv_ok Γok (by kernel_rfl) _ _ _ ?_); conv => whnf
  refine ⟨_, ret_eye t1 rfl rfl (eyeC_noHs _ _) (eyeC_noHs _ _) rfl, ?_⟩
  conv => whnf
  try (refine ⟨by kernel_rfl, ?_⟩; conv => whnf)
  refine ⟨_, ret_eye t2 rfl rfl (eyeC_noHs _ _) (eyeC_noHs _ _) rfl, ?_⟩
  conv => whnf
  try (refine ⟨by kernel_rfl, ?_⟩; conv => whnf)
  refine ⟨_, ret_eye t3 rfl rfl (eyeC_noHs _ _) (eyeC_noHs _ _) rfl, ?_⟩
  conv => whnf
  try (refine ⟨by kernel_rfl, ?_⟩; conv => whnf)
  refine ⟨_, ret_eye t4 rfl (show noH (.agg (bts v4)) = true from bts_noHs _) (eyeC_noHs _ _) (eyeC_noHs _ _) rfl, ?_⟩
  conv => whnf
  try (refine ⟨by kernel_rfl, ?_⟩; conv => whnf)
  refine onlyIf_intro (by rw [lw]; rfl) ?_
  rw [splice_32' lw, fold_bC v1 v2 v3 v4 (nI .i64 0) (nI .i64 0) (.ds true 0 [])]
  case h1 => rfl
  case h2 => rfl
  conv => whnf
  try (refine ⟨by kernel_rfl, ?_⟩; conv => whnf)
  refine ⟨_, ret_eye t5 rfl rfl (eyeC_noHs _ _) (eyeC_noHs _ _) rfl, ?_⟩
  conv => whnf
  try (refine ⟨by kernel_rfl, ?_⟩; conv => whnf)
  refine onlyIf_intro (by simp [bC_len w4]) ?_
  conv => whnf
  try (refine ⟨by kernel_rfl, ?_⟩; conv => whnf)
  rw [bC_35 w4 (i := 0 + 35) rfl]
  refine ⟨_, ret_eye t6 rfl rfl (eyeC_noHs _ _) (eyeC_noHs _ _) rfl, ?_⟩
  conv => whnf
  try (refine ⟨by kernel_rfl, ?_⟩; conv => whnf)
  refine onlyIf_intro (by simp [bC_len w4]) ?_
  conv => whnf
  try (refine ⟨by kernel_rfl, ?_⟩; conv => whnf)
  rw [bC_36 w4 (i := 0 + 36) rfl]
  refine .ownAs 0 [] rfl rfl ?_
  conv => whnf
  try (refine ⟨by kernel_rfl, ?_⟩; conv => whnf)
  refine onlyIf_intro (by show (_ && (_ && Nat.beq (bts s6.l).length _)) = true; rw [ls]; simp) ?_
  conv => whnf
  try (refine ⟨by kernel_rfl, ?_⟩; conv => whnf)
  refine onlyIf_intro (by simp [maxLen]; omega) ?_
  refine .read s6.l.length (bts s6.l) (by simp) (by simp) (by rw [ls]; exact (Nat.mul_one _).symm) (bts_noHs _) ?_
  conv => whnf
  try (refine ⟨by kernel_rfl, ?_⟩; conv => whnf)
  refine onlyIf_intro (by simp [bC_len w4]) ?_
  conv => whnf
  try (refine ⟨by kernel_rfl, ?_⟩; conv => whnf)
  rw [bC_37 w4 (i := 0 + 37) rfl]
  refine bindP_intro (load_agg rfl rfl (bC_len w4)) ?_
  conv => whnf
  try (refine ⟨by kernel_rfl, ?_⟩; conv => whnf)
  refine onlyIf_intro (by simp [bC_len w4]) ?_
  rw [splice_all (by simp [bC_len w4])]
  conv => whnf
  try (refine ⟨by kernel_rfl, ?_⟩; conv => whnf)
  exact ⟨_, vres_one rfl (vres_cell rfl rfl (load_agg rfl rfl (bC_len w4))), [(0, some 0)], rfl, rfl, conv_eq rfl (bC_noHs rfl rfl (bts_noHs _)), ⟨.inr ⟨_, _, rfl, rfl, convs_eq rfl (eyeC_noHs _ _)⟩, trivial⟩⟩
end Go.Proofs.Ytlecdiopokalgaa
namespace Go.Proofs.Ytlecdiopokalgaa
set_option linter.unusedVariables false
set_option linter.unusedSimpArgs false
set_option linter.unusedSectionVars false
open Go.ChangeShapes Go.WideShapes Go.ChangeAt Go.RowKit Go.Joins
set_option maxRecDepth 10000
theorem inI_fn (n m : Int) : FnV Try.prog G0 79 [nI .i64 n, nI .i64 m] (bI (decide (0 ≤ n) && decide (n ≤ m))) := by
  refine fn_of_vwp Γok Try.func79 (by kernel_rfl) rfl (by simp [Try.ntmps79]) (wpv_ok Γok (by kernel_rfl) _ _ _ ?_); conv => whnf
  by_cases h : 0 ≤ n
  · rw [decide_eq_true (show n ≥ 0 from h)]
    try rw [decide_eq_true h]
    conv => whnf
    try (refine ⟨by kernel_rfl, ?_⟩; conv => whnf)
    exact ⟨_, rfl, rfl⟩
  · rw [decide_eq_false (show ¬ n ≥ 0 from h)]
    try rw [decide_eq_false h]
    conv => whnf
    try (refine ⟨by kernel_rfl, ?_⟩; conv => whnf)
    exact ⟨_, rfl, rfl⟩
def inR (n m : Int) : Bool := decide (0 ≤ n) && decide (n ≤ m)
theorem inR_iff {n m : Int} : inR n m = true ↔ 0 ≤ n ∧ n ≤ m := by unfold inR; rw [Bool.and_eq_true, decide_eq_true_eq, decide_eq_true_eq]
/-- What Check comes to. -/
def chkB (b : BoI) : Nat := if inR b.time 1099511627776 = true then (if inR b.nonce 4294967295 = true then (if inR b.chain 65535 = true then (if inR b.num 1099511627776 = true then (if inR b.level 255 = true then (if 300 < b.load.length then 1 else 0) else 6) else 6) else 6) else 6) else 6
theorem bC_ix {t n c : Int} {em : List Nat} {x y z : VV} (he : em.length = 32) : (bC t n c em x y z)[35]? = some x ∧ (bC t n c em x y z)[36]? = some y ∧ (bC t n c em x y z)[37]? = some z := by
  unfold bC
  have h := fun i => List.getElem?_append_right (l₁ := bts em) (l₂ := [x, y, z]) (i := 32 + i) (by rw [bts_length, he]; omega)
  rw [bts_length, he] at h
  exact ⟨h 0, h 1, h 2⟩
theorem pcheckI_fn {b : BoI} (he : b.em.length = 32) (hl : b.load.length ≤ 140737488355328) : FnV Try.prog G0 72 [b.v] (nI .i64 (chkB b)) := by
  have c1 : FnV Try.prog G0 79 [nI .i64 b.time, nI .i64 1099511627776] (bI (inR b.time 1099511627776)) := inI_fn _ _
  have c2 : FnV Try.prog G0 79 [nI .i64 b.nonce, nI .i64 4294967295] (bI (inR b.nonce 4294967295)) := inI_fn _ _
  have c3 : FnV Try.prog G0 79 [nI .i64 b.chain, nI .i64 65535] (bI (inR b.chain 65535)) := inI_fn _ _
  have c4 : FnV Try.prog G0 79 [nI .i64 b.num, nI .i64 1099511627776] (bI (inR b.num 1099511627776)) := inI_fn _ _
  have c5 : FnV Try.prog G0 79 [nI .i64 b.level, nI .i64 255] (bI (inR b.level 255)) := inI_fn _ _
  obtain ⟨i35, i36, i37⟩ := bC_ix (t := b.time) (n := b.nonce) (c := b.chain) (x := nI .i64 b.num) (y := nI .i64 b.level) (z := .ds false b.load.length (bts b.load)) he
  unfold chkB
  refine gen_ex (inR b.time 1099511627776) fun q1 x1 => ?_
  refine gen_ex (inR b.nonce 4294967295) fun q2 x2 => ?_
  refine gen_ex (inR b.chain 65535) fun q3 x3 => ?_
  refine gen_ex (inR b.num 1099511627776) fun q4 x4 => ?_
  refine gen_ex (inR b.level 255) fun q5 x5 => ?_
  rw [← x1] at c1 ⊢
  rw [← x2] at c2 ⊢
  rw [← x3] at c3 ⊢
  rw [← x4] at c4 ⊢
  rw [← x5] at c5 ⊢
  clear x1 x2 x3 x4 x5
  unfold BoI.v BoI.cells
  refine fn_of_vwp Γok Try.func72 (by kernel_rfl) rfl (by simp [Try.ntmps72]) (wpv_ok Γok (by kernel_rfl) _ _ _ ?_); conv => whnf
  refine ⟨_, ret_of_fn G0ok (c1) (by first | rfl | simp only [noHs, noH, nI, bI, Bool.and_self, Bool.and_true, Bool.true_and, ]) (by first | rfl | simp only [noHs, noH, nI, bI, Bool.and_self, Bool.and_true, Bool.true_and, ]), ?_⟩; (conv => whnf); (try (refine ⟨by kernel_rfl, ?_⟩; conv => whnf))
  cases q1
  · conv => whnf
    try (refine ⟨by kernel_rfl, ?_⟩; conv => whnf)
    exact ⟨_, rfl, rfl⟩
  conv => whnf
  try (refine ⟨by kernel_rfl, ?_⟩; conv => whnf)
  refine ⟨_, ret_of_fn G0ok (c2) (by first | rfl | simp only [noHs, noH, nI, bI, Bool.and_self, Bool.and_true, Bool.true_and, ]) (by first | rfl | simp only [noHs, noH, nI, bI, Bool.and_self, Bool.and_true, Bool.true_and, ]), ?_⟩; (conv => whnf); (try (refine ⟨by kernel_rfl, ?_⟩; conv => whnf))
  cases q2
  · conv => whnf
    try (refine ⟨by kernel_rfl, ?_⟩; conv => whnf)
    exact ⟨_, rfl, rfl⟩
  conv => whnf
  try (refine ⟨by kernel_rfl, ?_⟩; conv => whnf)
  refine ⟨_, ret_of_fn G0ok (c3) (by first | rfl | simp only [noHs, noH, nI, bI, Bool.and_self, Bool.and_true, Bool.true_and, ]) (by first | rfl | simp only [noHs, noH, nI, bI, Bool.and_self, Bool.and_true, Bool.true_and, ]), ?_⟩; (conv => whnf); (try (refine ⟨by kernel_rfl, ?_⟩; conv => whnf))
  cases q3
  · conv => whnf
    try (refine ⟨by kernel_rfl, ?_⟩; conv => whnf)
    exact ⟨_, rfl, rfl⟩
  conv => whnf
  try (refine ⟨by kernel_rfl, ?_⟩; conv => whnf)
  refine bindP_intro i35 ?_
  conv => whnf
  try (refine ⟨by kernel_rfl, ?_⟩; conv => whnf)
  refine ⟨_, ret_of_fn G0ok (c4) (by first | rfl | simp only [noHs, noH, nI, bI, Bool.and_self, Bool.and_true, Bool.true_and, ]) (by first | rfl | simp only [noHs, noH, nI, bI, Bool.and_self, Bool.and_true, Bool.true_and, ]), ?_⟩; (conv => whnf); (try (refine ⟨by kernel_rfl, ?_⟩; conv => whnf))
  cases q4
  · conv => whnf
    try (refine ⟨by kernel_rfl, ?_⟩; conv => whnf)
    exact ⟨_, rfl, rfl⟩
  conv => whnf
  try (refine ⟨by kernel_rfl, ?_⟩; conv => whnf)
  refine bindP_intro i36 ?_
  conv => whnf
  try (refine ⟨by kernel_rfl, ?_⟩; conv => whnf)
  refine ⟨_, ret_of_fn G0ok (c5) (by first | rfl | simp only [noHs, noH, nI, bI, Bool.and_self, Bool.and_true, Bool.true_and, ]) (by first | rfl | simp only [noHs, noH, nI, bI, Bool.and_self, Bool.and_true, Bool.true_and, ]), ?_⟩; (conv => whnf); (try (refine ⟨by kernel_rfl, ?_⟩; conv => whnf))
  cases q5
  · conv => whnf
    try (refine ⟨by kernel_rfl, ?_⟩; conv => whnf)
    exact ⟨_, rfl, rfl⟩
  conv => whnf
  try (refine ⟨by kernel_rfl, ?_⟩; conv => whnf)
  refine bindP_intro i37 ?_
  conv => whnf
  try (refine ⟨by kernel_rfl, ?_⟩; conv => whnf)
  by_cases h : 300 < b.load.length
  · rw [decide_eq_true (show ((b.load.length : Nat) : Int) > 300 by omega)]
    conv => whnf
    try (refine ⟨by kernel_rfl, ?_⟩; conv => whnf)
    rw [if_pos h]
    exact ⟨_, rfl, rfl⟩
  · rw [decide_eq_false (show ¬ ((b.load.length : Nat) : Int) > 300 by omega)]
    conv => whnf
    try (refine ⟨by kernel_rfl, ?_⟩; conv => whnf)
    rw [if_neg h]
    exact ⟨_, rfl, rfl⟩
/-- Who signs, and how, in numbers. -/
structure SgnD where
  who : Nat
  R : Nat
  S : Nat
  odd : Nat
noncomputable def SgnD.cells (x : SgnD) : List VV := nI .i64 x.who :: (uC x.R ++ uC x.S ++ [nI .i64 x.odd])
theorem sgnD_noHs (x : SgnD) : noHs x.cells = true := by
  unfold SgnD.cells uC
  simp only [noHs_append, words_noHs, noHs, noH, nI, Bool.and_self]
theorem sgnD_len (x : SgnD) : x.cells.length = 10 := rfl
noncomputable def papC (set : Nat) (f : Bool) (L : List SgnD) (b : BoI) : List VV := nI .i64 set :: .ds f L.length (rows SgnD.cells L) :: b.cells
theorem boI_noHs (b : BoI) : noHs b.cells = true := bC_noHs rfl rfl (bts_noHs _)
theorem papC_noHs (set : Nat) (f : Bool) (L : List SgnD) (b : BoI) : noHs (papC set f L b) = true := by
  unfold papC
  simp only [noHs, noH, nI, rows_noHs sgnD_noHs, boI_noHs, Bool.and_self]
theorem papC_len {set : Nat} {f : Bool} {L : List SgnD} {b : BoI} (he : b.em.length = 32) : (papC set f L b).length = 40 := by
  unfold papC
  rw [List.length_cons, List.length_cons, show b.cells.length = 38 from bC_len he]
theorem papC_body {set : Nat} {f : Bool} {L : List SgnD} {b : BoI} (he : b.em.length = 32) : ((papC set f L b).drop 2).take 38 = b.cells := by
  show b.cells.take 38 = _
  exact List.take_of_length_le (by rw [show b.cells.length = 38 from bC_len he]; decide)
theorem fault_fn {set : Nat} {f : Bool} {L : List SgnD} {b : BoI} (hs : set ≤ 4294967295) (hL : L.length ≤ 19) (hw : ∀ x ∈ L, x.who ≤ 255 ∧ x.odd ≤ 255) (he : b.em.length = 32) (hl : b.load.length ≤ 140737488355328) : FnV Try.prog G0 44 [.agg (papC set f L b)] (nI .i64 (chkB b)) := by
  have ck := pcheckI_fn he hl
  have nb := boI_noHs b
  have pl := papC_len (set := set) (f := f) (L := L) he
  have pb := papC_body (set := set) (f := f) (L := L) he
  unfold BoI.v at ck
  refine fn_of_vwp Γok Try.func44 (by kernel_rfl) rfl (by simp [Try.ntmps44]) (wpv_ok Γok (by kernel_rfl) _ _ _ ?_); conv => whnf
  rw [decide_eq_false (show ¬ (set : Int) > 4294967295 by omega)]
  conv => whnf
  try (refine ⟨by kernel_rfl, ?_⟩; conv => whnf)
  rw [decide_eq_false (show ¬ ((L.length : Nat) : Int) > 19 by omega)]
  conv => whnf
  try (refine ⟨by kernel_rfl, ?_⟩; conv => whnf)
  refine vloop_invK G0ok [(0, some 0)] 1 (X := Nat) (fun i => [(20, nI .i64 i), (19, nI .i64 L.length), (18, .ds f L.length (rows SgnD.cells L)), (2, nI .i64 0), (1, .ptr 0 0)]) (fun _ => [(0, some (papC set f L b))]) (fun i => i ≤ L.length) (fun i => L.length - i) 0 rfl
    ⟨⟨_, rfl, conv_nI (rfl)⟩, ⟨_, rfl, conv_nI (rfl)⟩, ⟨_, rfl, conv_eq rfl (rows_noHs sgnD_noHs _)⟩, ⟨_, rfl, conv_nI (rfl)⟩, ⟨_, rfl, .ptr rfl⟩, trivial⟩ ⟨.inr ⟨_, _, rfl, rfl, convs_eq rfl (papC_noHs _ _ _ _)⟩, trivial⟩ (Nat.zero_le _) ?_
  intro i hi
  try dsimp only at hi
  try dsimp only
  refine wpv_ok Γok (by kernel_rfl) _ _ _ ?_; conv => whnf
  refine bool_cases (fun hc => ?_) (fun hc => ?_)
  · have hc := of_decide_eq_true hc
    have hc : i < L.length := by omega
    obtain ⟨w1, w2⟩ := hw _ (List.getElem_mem hc)
    conv => whnf
    try (refine ⟨by kernel_rfl, ?_⟩; conv => whnf)
    refine bindP_intro (if_pos (inB_ok (by omega) (by omega))) ?_; conv => whnf
    refine bindP_intro (row_load (i := i) (w := 10) rfl rfl rfl (fun a _ => sgnD_len a) (by dsimp only; omega) hc) ?_
    refine gen_ex L[i] fun x ex => ?_
    rw [← ex] at w1 w2 ⊢
    clear ex
    unfold SgnD.cells
    conv => whnf
    try (refine ⟨by kernel_rfl, ?_⟩; conv => whnf)
    rw [decide_eq_false (show ¬ ((x.who : Nat) : Int) > 255 by omega)]
    conv => whnf
    try (refine ⟨by kernel_rfl, ?_⟩; conv => whnf)
    rw [decide_eq_false (show ¬ ((x.odd : Nat) : Int) > 255 by omega)]
    conv => whnf
    try (refine ⟨by kernel_rfl, ?_⟩; conv => whnf)
    refine next_round (y := i) G0ok (i + 1) [(0, some 0)] rfl ⟨⟨_, rfl, conv_nI (ws_i64 (by omega) (by omega))⟩, ⟨_, rfl, conv_nI (rfl)⟩, ⟨_, rfl, conv_eq rfl (rows_noHs sgnD_noHs _)⟩, ⟨_, rfl, conv_nI (rfl)⟩, ⟨_, rfl, .ptr rfl⟩, trivial⟩ ⟨.inr ⟨_, _, rfl, rfl, convs_eq rfl (papC_noHs _ _ _ _)⟩, trivial⟩ (by omega) (by omega)
  · conv => whnf
    try (refine ⟨by kernel_rfl, ?_⟩; conv => whnf)
    refine bindP_intro (load_sub rfl rfl (by rw [pl]; decide) pb) ?_
    conv => whnf
    try (refine ⟨by kernel_rfl, ?_⟩; conv => whnf)
    refine ⟨_, ret_of_fn G0ok (ck) (by first | rfl | simp only [noHs, noH, nI, bI, Bool.and_self, Bool.and_true, Bool.true_and, nb]) (by first | rfl | simp only [noHs, noH, nI, bI, Bool.and_self, Bool.and_true, Bool.true_and, nb]), ?_⟩; (conv => whnf); (try (refine ⟨by kernel_rfl, ?_⟩; conv => whnf))
    exact ⟨_, rfl, rfl⟩
end Go.Proofs.Ytlecdiopokalgaa
namespace Go.Proofs.Ytlecdiopokalgaa
set_option linter.unusedVariables false
set_option linter.unusedSimpArgs false
set_option linter.unusedSectionVars false
open Go.ChangeShapes Go.WideShapes Go.ChangeAt Go.RowKit Go.Joins
set_option maxRecDepth 10000
/-- The bytes of a number, the highest one first. -/
noncomputable def nB (n : Nat) : List Nat := hid (btsTo [lim n 0, lim n 1, lim n 2, lim n 3] 32)
theorem nB_len (n : Nat) : (nB n).length = 32 := by unfold nB; rw [hid_eq, btsTo_length]
theorem nB_lt (n : Nat) : ∀ x ∈ nB n, x < 256 := by
  intro x hx
  unfold nB at hx
  rw [hid_eq] at hx
  obtain ⟨j, _, rfl⟩ := List.mem_map.1 hx
  split
  · unfold bt; omega
  · decide
theorem nbytes_fn (n : Nat) : FnV Try.prog G0 46 [uV n] (.agg (bts (nB n))) := by
  have := bytes_fn [lim n 0, lim n 1, lim n 2, lim n 3] rfl (by
    intro x hx
    have h := fun i => lim_lt n i
    rw [B64_eq] at h
    simp only [List.mem_cons, List.not_mem_nil, or_false] at hx
    rcases hx with rfl | rfl | rfl | rfl <;> exact h _)
  unfold nB
  rw [hid_eq]
  exact this
end Go.Proofs.Ytlecdiopokalgaa
namespace Go.Proofs.Ytlecdiopokalgaa
set_option linter.unusedVariables false
set_option linter.unusedSimpArgs false
set_option linter.unusedSectionVars false
open Go.ChangeShapes Go.WideShapes Go.ChangeAt Go.RowKit Go.Joins
set_option maxRecDepth 10000
/-- What is written of a signature, and of a paper. -/
noncomputable def sgnB (x : SgnD) : List Nat := be x.who 1 ++ nB x.R ++ nB x.S ++ be x.odd 1
theorem sgnB_len (x : SgnD) : (sgnB x).length = 66 := by
  unfold sgnB
  simp only [List.length_append, be_len, nB_len]
noncomputable def sgnsB (L : List SgnD) : List Nat := L.flatMap sgnB
theorem sgnsB_len (L : List SgnD) : (sgnsB L).length = 66 * L.length := by
  unfold sgnsB
  induction L with
  | nil => rfl
  | cons x L ih => rw [List.flatMap_cons, List.length_append, sgnB_len, ih, List.length_cons]; omega
noncomputable def headB (set : Nat) (L : List SgnD) : List Nat := be 1 1 ++ be set 4 ++ be L.length 1
def BoI.d (b : BoI) : BoD := ⟨b.time.toNat, b.nonce.toNat, b.chain.toNat, b.em, b.num.toNat, b.level.toNat, false, b.load⟩
theorem chkB_zero {b : BoI} (h : chkB b = 0) : inR b.time 1099511627776 = true ∧ inR b.nonce 4294967295 = true ∧ inR b.chain 65535 = true ∧ inR b.num 1099511627776 = true ∧ inR b.level 255 = true ∧ b.load.length ≤ 300 := by
  unfold chkB at h
  split at h
  · split at h
    · split at h
      · split at h
        · split at h
          · split at h
            · cases h
            · exact ⟨‹_›, ‹_›, ‹_›, ‹_›, ‹_›, by omega⟩
          · cases h
        · cases h
      · cases h
    · cases h
  · cases h
theorem d_cells {b : BoI} (h : chkB b = 0) : b.d.cells = b.cells := by
  obtain ⟨h1, h2, h3, h4, h5, _⟩ := chkB_zero h
  rw [inR_iff] at h1 h2 h3 h4 h5
  unfold BoI.d BoD.cells BoI.cells bC
  dsimp only
  rw [show ((b.time.toNat : Nat) : Int) = b.time from by omega, show ((b.nonce.toNat : Nat) : Int) = b.nonce from by omega, show ((b.chain.toNat : Nat) : Int) = b.chain from by omega, show ((b.num.toNat : Nat) : Int) = b.num from by omega, show ((b.level.toNat : Nat) : Int) = b.level from by omega]
noncomputable def encB (set : Nat) (L : List SgnD) (b : BoI) : List Nat := headB set L ++ sgnsB L ++ bodyB b.d
theorem sgns_step {L : List SgnD} {i : Nat} (h : i < L.length) : sgnsB (L.take (i + 1)) = sgnsB (L.take i) ++ sgnB L[i] := by
  unfold sgnsB
  rw [List.take_add_one, List.getElem?_eq_getElem h, List.flatMap_append]
  simp
theorem enc_fn {set : Nat} {f : Bool} {L : List SgnD} {b : BoI} (hs : set ≤ 4294967295) (hL : L.length ≤ 19) (hw : ∀ x ∈ L, x.who ≤ 255 ∧ x.odd ≤ 255) (he : b.em.length = 32) (hc : chkB b = 0) : FnV Try.prog G0 15 [.agg (papC set f L b)] (.tup [.ds false (encB set L b).length (bts (encB set L b)), nI .i64 0]) := by
  obtain ⟨_, _, _, _, _, hl⟩ := chkB_zero hc
  have ft := fault_fn (f := f) hs hL hw he (by omega)
  rw [hc] at ft
  have pl := papC_len (set := set) (f := f) (L := L) he
  have pn := papC_noHs set f L b
  have pb := papC_body (set := set) (f := f) (L := L) he
  have k1 := number_nil (n := 1) (s := 0) (by decide)
  have k2 := number_fnH (l := be 1 1) (n := set) (s := 3) (by decide) (by rw [be_len]; decide)
  have k3 := number_fnH (l := be 1 1 ++ be set 4) (n := L.length) (s := 0) (by decide) (by simp only [List.length_append, be_len]; decide)
  have hH : (headB set L).length = 6 := by unfold headB; simp only [List.length_append, be_len]
  have eH : headB set L = be 1 1 ++ be set 4 ++ be L.length 1 := rfl
  rw [← eH] at k3
  have bd := fun (l : List Nat) (hl2 : l.length ≤ 20000) => body_fnH (l := l) (b := b.d) he (show b.load.length ≤ 20000 by omega) hl2
  have dc := d_cells hc
  unfold BoD.v at bd
  rw [dc] at bd
  unfold encB
  refine gen_ex (headB set L) fun H0 eH0 => ?_
  rw [← eH0] at k3 hH ⊢
  clear eH eH0
  refine gen_ex (bodyB b.d) fun BD eBD => ?_
  rw [← eBD] at bd ⊢
  clear eBD
  refine gen_ex (be 1 1) fun l1 e1 => ?_
  rw [← e1] at k1 k2 k3
  refine gen_ex (be set 4) fun l2 e2 => ?_
  rw [← e2] at k2 k3
  clear e1 e2
  obtain ⟨l12, e12⟩ : ∃ l, l = l1 ++ l2 := ⟨_, rfl⟩
  rw [← e12] at k2 k3
  clear e12
  refine fn_of_vwp Γok Try.func15 (by kernel_rfl) rfl (by simp [Try.ntmps15]) (wpv_ok Γok (by kernel_rfl) _ _ _ ?_); conv => whnf
  refine bindP_intro (load_agg rfl rfl pl) ?_
  conv => whnf
  try (refine ⟨by kernel_rfl, ?_⟩; conv => whnf)
  refine ⟨_, ret_of_fn G0ok (ft) (by first | rfl | simp only [noHs, noH, nI, bI, Bool.and_self, Bool.and_true, Bool.true_and, pn]) (by first | rfl | simp only [noHs, noH, nI, bI, Bool.and_self, Bool.and_true, Bool.true_and, pn]), ?_⟩; (conv => whnf); (try (refine ⟨by kernel_rfl, ?_⟩; conv => whnf))
  refine ⟨_, ret_pen1 k1 rfl (bts_noHs _) rfl, ?_⟩
  conv => whnf
  try (refine ⟨by kernel_rfl, ?_⟩; conv => whnf)
  refine ⟨_, ret_pen2 k2 rfl rfl (bts_noHs _) (bts_noHs _) rfl rfl, ?_⟩
  conv => whnf
  try (refine ⟨by kernel_rfl, ?_⟩; conv => whnf)
  refine ⟨_, ret_pen2 k3 rfl rfl (bts_noHs _) (bts_noHs _) rfl rfl, ?_⟩
  conv => whnf
  try (refine ⟨by kernel_rfl, ?_⟩; conv => whnf)
  refine vloop_invK G0ok [(0, some 0), (1, some 1), (2, some 4)] 3 (X := Nat) (fun i => [(31, nI .i64 i), (30, nI .i64 L.length), (29, .ds f L.length (rows SgnD.cells L)), (5, .ptr 1 0), (3, nI .i64 0), (2, .ds true 0 []), (1, .ptr 0 0)])
    (fun i => [(0, some (papC set f L b)), (1, some [.sl 2 0 (H0 ++ sgnsB (L.take i)).length 1]), (2, some (bts (H0 ++ sgnsB (L.take i))))]) (fun i => i ≤ L.length) (fun i => L.length - i) 0 rfl
    ⟨⟨_, rfl, conv_nI (rfl)⟩, ⟨_, rfl, conv_nI (rfl)⟩, ⟨_, rfl, conv_eq rfl (rows_noHs sgnD_noHs _)⟩, ⟨_, rfl, .ptr rfl⟩, ⟨_, rfl, conv_nI (rfl)⟩, ⟨_, rfl, .same rfl⟩, ⟨_, rfl, .ptr rfl⟩, trivial⟩ ⟨.inr ⟨_, _, rfl, rfl, convs_eq rfl (pn)⟩, .inr ⟨_, _, rfl, rfl, .cons (conv_slE rfl rfl (by rw [List.take_zero]; show H0.length = (H0 ++ []).length; rw [List.append_nil]) rfl) .nil⟩, .inr ⟨_, _, rfl, rfl, convs_eq (by rw [List.take_zero]; show bts H0 = bts (H0 ++ []); rw [List.append_nil]) (bts_noHs _)⟩, trivial⟩ (Nat.zero_le _) ?_
  intro i hi
  try dsimp only at hi
  try dsimp only
  refine wpv_ok Γok (by kernel_rfl) _ _ _ ?_; conv => whnf
  refine bool_cases (fun hc => ?_) (fun hc => ?_)
  · have hc := of_decide_eq_true hc
    have hc : i < L.length := by omega
    have st := sgns_step hc
    have ll : (H0 ++ sgnsB (L.take i)).length ≤ 1300 := by rw [List.length_append, sgnsB_len, List.length_take]; omega
    have nl : H0 ++ sgnsB (L.take (i + 1)) = (H0 ++ sgnsB (L.take i)) ++ sgnB L[i] := by rw [st, List.append_assoc]
    refine gen_ex (H0 ++ sgnsB (L.take i)) fun l el => ?_
    rw [← el] at ll nl ⊢
    clear el
    refine gen_ex (H0 ++ sgnsB (L.take (i + 1))) fun m em => ?_
    rw [← em] at nl
    conv => whnf
    try (refine ⟨by kernel_rfl, ?_⟩; conv => whnf)
    refine bindP_intro (if_pos (inB_ok (by omega) (by omega))) ?_; conv => whnf
    refine bindP_intro (row_load (i := i) (w := 10) rfl rfl rfl (fun a _ => sgnD_len a) (by dsimp only; omega) hc) ?_
    refine gen_ex L[i] fun x ex => ?_
    rw [← ex] at nl ⊢
    clear ex
    have r1 := nbytes_fn x.R
    have r2 := nbytes_fn x.S
    have n1 := nB_len x.R
    have n2 := nB_len x.S
    have q1 := number_fnH (l := l) (n := x.who) (s := 0) (by decide) (by omega)
    have q2 := bytes_own (l := l ++ be x.who 1) (r := nB x.R) (cs := bts (nB x.R)) (off := 0) (by rw [List.drop_zero, List.take_of_length_le (by rw [bts_length, n1]; decide)]) (by rw [bts_length, n1]; decide) (bts_noHs _) (by rw [List.length_append, be_len]; omega) (by omega)
    have q3 := bytes_own (l := l ++ be x.who 1 ++ nB x.R) (r := nB x.S) (cs := bts (nB x.S)) (off := 0) (by rw [List.drop_zero, List.take_of_length_le (by rw [bts_length, n2]; decide)]) (by rw [bts_length, n2]; decide) (bts_noHs _) (by simp only [List.length_append, be_len, n1]; omega) (by omega)
    have q4 := number_fnH (l := l ++ be x.who 1 ++ nB x.R ++ nB x.S) (n := x.odd) (s := 0) (by decide) (by simp only [List.length_append, be_len, n1, n2]; omega)
    unfold sgnB at nl
    rw [n1] at q2
    rw [n2] at q3
    have m1 : (bts (nB x.R)).length = 32 := by rw [bts_length, n1]
    have m2 : (bts (nB x.S)).length = 32 := by rw [bts_length, n2]
    rw [← List.append_assoc, ← List.append_assoc, ← List.append_assoc] at nl
    rw [← nl] at q4
    refine gen_ex (l ++ be x.who 1 ++ nB x.R ++ nB x.S) fun l3 e3 => ?_
    rw [← e3] at q3 q4
    refine gen_ex (l ++ be x.who 1 ++ nB x.R) fun l2 e2 => ?_
    rw [← e2] at q2 q3
    refine gen_ex (l ++ be x.who 1) fun l1 e1 => ?_
    rw [← e1] at q1 q2
    clear e1 e2 e3 nl
    refine gen_ex (nB x.R) fun A eA => ?_
    rw [← eA] at r1 q2 m1
    clear eA n1
    refine gen_ex (nB x.S) fun B eB => ?_
    rw [← eB] at r2 q3 m2
    clear eB n2
    unfold SgnD.cells
    conv => whnf
    try (refine ⟨by kernel_rfl, ?_⟩; conv => whnf)
    refine ⟨_, ret_of_fn G0ok (r1) (by first | rfl | simp only [noHs, noH, nI, bI, Bool.and_self, Bool.and_true, Bool.true_and, bts_noHs]) (by first | rfl | simp only [noHs, noH, nI, bI, Bool.and_self, Bool.and_true, Bool.true_and, bts_noHs]), ?_⟩; (conv => whnf); (try (refine ⟨by kernel_rfl, ?_⟩; conv => whnf))
    refine ⟨_, ret_of_fn G0ok (r2) (by first | rfl | simp only [noHs, noH, nI, bI, Bool.and_self, Bool.and_true, Bool.true_and, bts_noHs]) (by first | rfl | simp only [noHs, noH, nI, bI, Bool.and_self, Bool.and_true, Bool.true_and, bts_noHs]), ?_⟩; (conv => whnf); (try (refine ⟨by kernel_rfl, ?_⟩; conv => whnf))
    refine onlyIf_intro (by rw [m1]; rfl) ?_
    rw [splice_all (new := bts A) (by rw [m1]; rfl)]
    conv => whnf
    try (refine ⟨by kernel_rfl, ?_⟩; conv => whnf)
    refine onlyIf_intro (by rw [m2]; rfl) ?_
    rw [splice_all (new := bts B) (by rw [m2]; rfl)]
    conv => whnf
    try (refine ⟨by kernel_rfl, ?_⟩; conv => whnf)
    refine ⟨_, ret_pen2 q1 rfl rfl (bts_noHs _) (bts_noHs _) rfl rfl, ?_⟩
    conv => whnf
    try (refine ⟨by kernel_rfl, ?_⟩; conv => whnf)
    refine onlyIf_intro (by simp [m1, maxLen]) ?_
    conv => whnf
    try (refine ⟨by kernel_rfl, ?_⟩; conv => whnf)
    refine ⟨_, ret_pen3 q2 rfl (bts_noHs _) (bts_noHs _) (bts_noHs _) rfl rfl rfl, ?_⟩
    conv => whnf
    try (refine ⟨by kernel_rfl, ?_⟩; conv => whnf)
    refine onlyIf_intro (by simp [m2, maxLen]) ?_
    conv => whnf
    try (refine ⟨by kernel_rfl, ?_⟩; conv => whnf)
    refine ⟨_, ret_pen3 q3 rfl (bts_noHs _) (bts_noHs _) (bts_noHs _) rfl rfl rfl, ?_⟩
    conv => whnf
    try (refine ⟨by kernel_rfl, ?_⟩; conv => whnf)
    refine ⟨_, ret_pen2 q4 rfl rfl (bts_noHs _) (bts_noHs _) rfl rfl, ?_⟩
    conv => whnf
    try (refine ⟨by kernel_rfl, ?_⟩; conv => whnf)
    refine next_round (y := i) G0ok (i + 1) [(0, some 0), (1, some 1), (2, some 9)] rfl ⟨⟨_, rfl, conv_nI (ws_i64 (by omega) (by omega))⟩, ⟨_, rfl, conv_nI (rfl)⟩, ⟨_, rfl, conv_eq rfl (rows_noHs sgnD_noHs _)⟩, ⟨_, rfl, .ptr rfl⟩, ⟨_, rfl, conv_nI (rfl)⟩, ⟨_, rfl, .same rfl⟩, ⟨_, rfl, .ptr rfl⟩, trivial⟩ ⟨.inr ⟨_, _, rfl, rfl, convs_eq rfl (pn)⟩, .inr ⟨_, _, rfl, rfl, .cons (conv_slE rfl rfl (by rw [em]) rfl) .nil⟩, .inr ⟨_, _, rfl, rfl, convs_eq (by rw [em]) (bts_noHs _)⟩, trivial⟩ (by omega) (by omega)
  · have hc := of_decide_eq_false hc
    have e : i = L.length := by omega
    subst e
    rw [List.take_length]
    have ll : (H0 ++ sgnsB L).length ≤ 1300 := by rw [List.length_append, sgnsB_len]; omega
    have bd := bd _ (Nat.le_trans ll (by decide))
    refine gen_ex (H0 ++ sgnsB L) fun l el => ?_
    rw [← el] at bd ⊢
    clear el
    conv => whnf
    try (refine ⟨by kernel_rfl, ?_⟩; conv => whnf)
    refine bindP_intro (load_sub rfl rfl (by rw [pl]; decide) pb) ?_
    conv => whnf
    try (refine ⟨by kernel_rfl, ?_⟩; conv => whnf)
    refine ⟨_, ret_pen2 bd rfl (show noHs [VV.agg b.cells] = true from by simp only [noHs, noH, boI_noHs, Bool.and_self]) (bts_noHs _) (bts_noHs _) rfl rfl, ?_⟩
    conv => whnf
    try (refine ⟨by kernel_rfl, ?_⟩; conv => whnf)
    exact ⟨_, rfl, deep_tup (mapO_cons (deep_row rfl (by rw [bts_length]; exact (Nat.mul_one _).symm) (bts_noHs _)) (mapO_cons (deepV_noH _ _ rfl) mapO_nil))⟩
end Go.Proofs.Ytlecdiopokalgaa
namespace Go.Proofs.Ytlecdiopokalgaa
set_option linter.unusedVariables false
set_option linter.unusedSimpArgs false
set_option linter.unusedSectionVars false
open Go.ChangeShapes Go.WideShapes Go.ChangeAt Go.RowKit Go.Joins
set_option maxRecDepth 10000
/-- A signature is read. -/
noncomputable def rdSgn (s : EyS) : SgnD × EyS := (⟨beV (s.take 1).1, fromV ((s.take 1).2.take 32).1 32, fromV (((s.take 1).2.take 32).2.take 32).1 32, beV ((((s.take 1).2.take 32).2.take 32).2.take 1).1⟩, ((((s.take 1).2.take 32).2.take 32).2.take 1).2)
noncomputable def rdSgns : Nat → EyS → List SgnD × EyS
  | 0, s => ([], s)
  | n + 1, s => ((rdSgns n s).1 ++ [(rdSgn (rdSgns n s).2).1], (rdSgn (rdSgns n s).2).2)
/-- The eye behind the version, behind the set, behind how many sign. -/
def dec1 (l : List Nat) : List Nat × EyS := EyS.take ⟨l, true⟩ 1
def dec2 (l : List Nat) : List Nat × EyS := (dec1 l).2.take 4
def dec3 (l : List Nat) : List Nat × EyS := (dec2 l).2.take 1
noncomputable def dec4 (l : List Nat) : List SgnD × EyS := rdSgns (beV (dec3 l).1) (dec3 l).2
noncomputable def dec5 (l : List Nat) : BoI × EyS := rdB (dec4 l).2
noncomputable def decC (l : List Nat) : Nat :=
  if (dec1 l).2.ok = true ∧ beV (dec1 l).1 ≠ 1 then 3 else if (dec3 l).2.ok = true ∧ 19 < beV (dec3 l).1 then 1 else if (dec5 l).2.ok = false then 4 else chkB (dec5 l).1
/-- A paper of nothing. -/
noncomputable def papZ : VV := .agg (nI .i64 0 :: .ds true 0 [] :: bC 0 0 0 (List.replicate 32 0) (nI .i64 0) (nI .i64 0) (.ds true 0 []))
theorem EyS.bad_nil {s : EyS} {n : Nat} (h : s.ok = false → s.l = []) : (s.take n).2.ok = false → (s.take n).2.l = [] := by
  unfold EyS.take
  split
  · exact fun _ => rfl
  · intro e
    dsimp only at e ⊢
    rw [h e, List.drop_nil]
theorem beV_zeros : ∀ n, beV (List.replicate n 0) = 0
  | 0 => rfl
  | n + 1 => by rw [List.replicate_succ', beV_snoc, beV_zeros n]
theorem EyS.bad_zero {s : EyS} {n : Nat} (h : s.ok = false → s.l = []) (hn : 0 < n) (e : (s.take n).2.ok = false) : beV (s.take n).1 = 0 := by
  unfold EyS.take at *
  split at e
  · rename_i c
    rw [if_pos c]
    exact beV_zeros n
  · rename_i c
    have := h e
    rw [this, List.length_nil] at c
    omega
theorem rdSgns_le (s : EyS) : ∀ n, (rdSgns n s).2.l.length ≤ s.l.length
  | 0 => Nat.le_refl _
  | n + 1 => by
    have ih := rdSgns_le s n
    refine Nat.le_trans ?_ ih
    refine gen_ex (rdSgns n s).2 fun t et => ?_
    show (rdSgn (rdSgns n s).2).2.l.length ≤ _
    rw [← et]
    unfold rdSgn
    dsimp only
    exact Nat.le_trans (EyS.take_le _ _) (Nat.le_trans (EyS.take_le _ _) (Nat.le_trans (EyS.take_le _ _) (EyS.take_le _ _)))
theorem rdSgns_lt {s : EyS} (h : ∀ x ∈ s.l, x < 256) : ∀ n, ∀ x ∈ (rdSgns n s).2.l, x < 256
  | 0 => h
  | n + 1 => by
    have ih := rdSgns_lt h n
    show ∀ x ∈ (rdSgn (rdSgns n s).2).2.l, x < 256
    unfold rdSgn
    dsimp only
    exact (EyS.take_lt (EyS.take_lt (EyS.take_lt (EyS.take_lt ih 1).2 32).2 32).2 1).2
theorem rdSgns_len (s : EyS) : ∀ n, (rdSgns n s).1.length = n
  | 0 => rfl
  | n + 1 => by
    show ((rdSgns n s).1 ++ [_]).length = _
    rw [List.length_append, rdSgns_len s n]
    rfl
theorem rdSgns_w {s : EyS} (h : ∀ x ∈ s.l, x < 256) : ∀ n, ∀ x ∈ (rdSgns n s).1, x.who ≤ 255 ∧ x.odd ≤ 255
  | 0, x, hx => by cases hx
  | n + 1, x, hx => by
    rcases List.mem_append.1 (show x ∈ (rdSgns n s).1 ++ [(rdSgn (rdSgns n s).2).1] from hx) with hx | hx
    · exact rdSgns_w h n x hx
    · rw [List.mem_singleton.1 hx]
      have hb := rdSgns_lt h n
      refine gen_ex (rdSgns n s).2 fun t et => ?_
      rw [← et] at hb ⊢
      unfold rdSgn
      dsimp only
      have a := beV_lt 1 (t.take 1).1 (t.take_len 1) (EyS.take_lt hb 1).1
      have b3 := (EyS.take_lt (EyS.take_lt (EyS.take_lt hb 1).2 32).2 32).2
      have b := beV_lt 1 ((((t.take 1).2.take 32).2.take 32).2.take 1).1 (EyS.take_len _ 1) (EyS.take_lt b3 1).1
      omega
theorem em32 (l : List Nat) : (dec5 l).1.em.length = 32 := by
  unfold dec5 rdB
  dsimp only
  exact EyS.take_len _ 32
theorem splice_body {a c : VV} {Z new : List VV} {off : Nat} (ho : off = 2) (hZ : Z.length = 38) (hn : new.length = 38) : splice (a :: c :: Z) off new = a :: c :: new := by
  subst ho
  unfold splice
  rw [hn, show (a :: c :: Z).drop (2 + 38) = Z.drop 38 from rfl, List.drop_eq_nil_of_le (by omega), List.append_nil]
  rfl
theorem dload_le (l : List Nat) : (dec5 l).1.load.length ≤ (dec4 l).2.l.length := by
  unfold dec5 rdB
  dsimp only
  exact Nat.le_trans (EyS.take_le _ _) (Nat.le_trans (EyS.take_le _ _) (Nat.le_trans (EyS.take_le _ _) (Nat.le_trans (EyS.take_le _ _) (Nat.le_trans (EyS.take_le _ _) (EyS.take_le _ _)))))
theorem dec_cases' (P : Prop) {Q : Prop} (h2 : ¬ P → Q) (h1 : P → Q) : Q := (Classical.em P).elim h1 h2
set_option maxHeartbeats 4000000 in
theorem dec_fn {f : Bool} {l : List Nat} (hl : l.length ≤ 140737488355328) (hb : ∀ x ∈ l, x < 256) : FnV Try.prog G0 16 [.ds f l.length (bts l)]
    (.tup [if decC l = 0 then .agg (papC (beV (dec2 l).1) false (dec4 l).1 (dec5 l).1) else papZ, nI .i64 (decC l : Nat)]) := by
  have hM : 140737488355328 ≤ maxLen := by decide
  obtain ⟨g1, t1⟩ := rnum_fn (f := f) ⟨l, true⟩ (n := 1) (by decide) (by show l.length ≤ _; omega) hb
  have l1 : (dec1 l).2.l.length ≤ l.length := EyS.take_le ⟨l, true⟩ 1
  have b1 : ∀ x ∈ (dec1 l).2.l, x < 256 := (EyS.take_lt (s := ⟨l, true⟩) hb 1).2
  have v1 : beV (dec1 l).1 < 256 := beV_lt 1 _ (EyS.take_len _ 1) (EyS.take_lt (s := ⟨l, true⟩) hb 1).1
  have n1 : (dec1 l).2.ok = false → (dec1 l).2.l = [] := EyS.bad_nil (s := ⟨l, true⟩) fun h => by cases h
  rw [show EyS.take ⟨l, true⟩ 1 = dec1 l from rfl, ws_i64 (by omega) (by omega)] at t1
  obtain ⟨g2, t2⟩ := rnum_fn (f := g1) (dec1 l).2 (n := 4) (by decide) (by omega) b1
  have l2 : (dec2 l).2.l.length ≤ (dec1 l).2.l.length := EyS.take_le _ 4
  have b2 : ∀ x ∈ (dec2 l).2.l, x < 256 := (EyS.take_lt b1 4).2
  have v2 : beV (dec2 l).1 < 4294967296 := beV_lt 4 _ (EyS.take_len _ 4) (EyS.take_lt b1 4).1
  have n2 : (dec2 l).2.ok = false → (dec2 l).2.l = [] := EyS.bad_nil n1
  rw [show (dec1 l).2.take 4 = dec2 l from rfl, ws_i64 (by omega) (by omega)] at t2
  obtain ⟨g3, t3⟩ := rnum_fn (f := g2) (dec2 l).2 (n := 1) (by decide) (by omega) b2
  have l3 : (dec3 l).2.l.length ≤ (dec2 l).2.l.length := EyS.take_le _ 1
  have b3 : ∀ x ∈ (dec3 l).2.l, x < 256 := (EyS.take_lt b2 1).2
  have v3 : beV (dec3 l).1 < 256 := beV_lt 1 _ (EyS.take_len _ 1) (EyS.take_lt b2 1).1
  have z3 : (dec3 l).2.ok = false → beV (dec3 l).1 = 0 := EyS.bad_zero n2 (by decide)
  rw [show (dec2 l).2.take 1 = dec3 l from rfl, ws_i64 (by omega) (by omega)] at t3
  by_cases hA : (dec1 l).2.ok = true ∧ beV (dec1 l).1 ≠ 1
  · have e : decC l = 3 := by unfold decC; rw [if_pos hA]
    rw [e, if_neg (by decide)]
    obtain ⟨a1, a2⟩ := hA
    have c1 : eyeC g1 (dec1 l).2 = [.ds g1 (dec1 l).2.l.length (bts (dec1 l).2.l), bI true] := by unfold eyeC; rw [a1]
    rw [c1] at t1
    refine fn_of_vwp Γok Try.func16 (by kernel_rfl) rfl (by simp [Try.ntmps16]) (wpv_ok Γok (by kernel_rfl) _ _ _ ?_); conv => whnf
    refine ⟨_, ret_eye t1 rfl rfl (eyeC_noHs f ⟨l, true⟩) (by simp only [noHs, noH, bts_noHs, bI, Bool.and_self]) rfl, ?_⟩
    conv => whnf
    try (refine ⟨by kernel_rfl, ?_⟩; conv => whnf)
    rw [show (((beV (dec1 l).1 : Nat) : Int) != 1) = !decide (beV (dec1 l).1 = 1) from bne_lit _ 1, decide_eq_false a2]
    conv => whnf
    try (refine ⟨by kernel_rfl, ?_⟩; conv => whnf)
    exact ⟨_, rfl, rfl⟩
  · have c1 : ∃ o1 : Bool, eyeC g1 (dec1 l).2 = [.ds g1 (dec1 l).2.l.length (bts (dec1 l).2.l), bI o1] ∧ (o1 = true → beV (dec1 l).1 = 1) := ⟨_, rfl, fun h => Classical.byContradiction fun h2 => hA ⟨h, h2⟩⟩
    obtain ⟨o1, c1, w1⟩ := c1
    have k1 : noHs [.ds g1 (dec1 l).2.l.length (bts (dec1 l).2.l), bI o1] = true := by simp only [noHs, noH, bts_noHs, bI, Bool.and_self]
    rw [c1] at t1 t2
    by_cases hB : (dec3 l).2.ok = true ∧ 19 < beV (dec3 l).1
    · have e : decC l = 1 := by unfold decC; rw [if_neg hA, if_pos hB]
      rw [e, if_neg (by decide)]
      obtain ⟨a1, a2⟩ := hB
      have c3 : eyeC g3 (dec3 l).2 = [.ds g3 (dec3 l).2.l.length (bts (dec3 l).2.l), bI true] := by unfold eyeC; rw [a1]
      rw [c3] at t3
      have k3 : noHs [.ds g3 (dec3 l).2.l.length (bts (dec3 l).2.l), bI true] = true := by simp only [noHs, noH, bts_noHs, bI, Bool.and_self]
      cases o1
      all_goals
        refine fn_of_vwp Γok Try.func16 (by kernel_rfl) rfl (by simp [Try.ntmps16]) (wpv_ok Γok (by kernel_rfl) _ _ _ ?_); conv => whnf
        refine ⟨_, ret_eye t1 rfl rfl (eyeC_noHs f ⟨l, true⟩) k1 rfl, ?_⟩
        conv => whnf
        try (refine ⟨by kernel_rfl, ?_⟩; conv => whnf)
        try (rw [show (((beV (dec1 l).1 : Nat) : Int) != 1) = !decide (beV (dec1 l).1 = 1) from bne_lit _ 1, decide_eq_true (w1 rfl)]; (conv => whnf))
        refine ⟨_, ret_eye t2 rfl rfl k1 (eyeC_noHs _ _) rfl, ?_⟩
        conv => whnf
        try (refine ⟨by kernel_rfl, ?_⟩; conv => whnf)
        refine ⟨_, ret_eye t3 rfl rfl (eyeC_noHs _ _) k3 rfl, ?_⟩
        conv => whnf
        try (refine ⟨by kernel_rfl, ?_⟩; conv => whnf)
        rw [decide_eq_true (show ((beV (dec3 l).1 : Nat) : Int) > 19 by omega)]
        conv => whnf
        try (refine ⟨by kernel_rfl, ?_⟩; conv => whnf)
        exact ⟨_, rfl, rfl⟩
    · have hn : beV (dec3 l).1 ≤ 19 := by
        cases ho : (dec3 l).2.ok
        · rw [z3 ho]; decide
        · exact Classical.byContradiction fun h => hB ⟨ho, by omega⟩
      have c3 : ∃ o3 : Bool, eyeC g3 (dec3 l).2 = [.ds g3 (dec3 l).2.l.length (bts (dec3 l).2.l), bI o3] := ⟨_, rfl⟩
      obtain ⟨o3, c3⟩ := c3
      have k3 : noHs [.ds g3 (dec3 l).2.l.length (bts (dec3 l).2.l), bI o3] = true := by simp only [noHs, noH, bts_noHs, bI, Bool.and_self]
      have c3' := c3
      rw [c3] at t3
      have hdec : decC l = if (dec5 l).2.ok = false then 4 else chkB (dec5 l).1 := by unfold decC; rw [if_neg hA, if_neg hB]
      rw [hdec]
      cases o1
      all_goals
        cases o3
        all_goals
          refine fn_of_vwp Γok Try.func16 (by kernel_rfl) rfl (by simp [Try.ntmps16]) (wpv_ok Γok (by kernel_rfl) _ _ _ ?_); conv => whnf
          refine ⟨_, ret_eye t1 rfl rfl (eyeC_noHs f ⟨l, true⟩) k1 rfl, ?_⟩
          conv => whnf
          try (refine ⟨by kernel_rfl, ?_⟩; conv => whnf)
          try (rw [show (((beV (dec1 l).1 : Nat) : Int) != 1) = !decide (beV (dec1 l).1 = 1) from bne_lit _ 1, decide_eq_true (w1 rfl)]; (conv => whnf))
          refine ⟨_, ret_eye t2 rfl rfl k1 (eyeC_noHs _ _) rfl, ?_⟩
          conv => whnf
          try (refine ⟨by kernel_rfl, ?_⟩; conv => whnf)
          refine ⟨_, ret_eye t3 rfl rfl (eyeC_noHs _ _) k3 rfl, ?_⟩
          conv => whnf
          try (refine ⟨by kernel_rfl, ?_⟩; conv => whnf)
          try (rw [decide_eq_false (show ¬ ((beV (dec3 l).1 : Nat) : Int) > 19 by omega)]; (conv => whnf))
          refine vloop_invK G0ok [(0, some 0), (1, some 1), (2, some 2), (3, none)] 4 (X := Nat × Bool)
            (fun y => [(39, nI .i64 y.1), (38, nI .i64 (beV (dec3 l).1)), (6, .ptr 2 0), (4, .ptr 1 0), (3, nI .i64 0), (2, .ptr 0 0)])
            (fun y => [(0, some (nI .i64 0 :: .ds true 0 [] :: bC 0 0 0 (List.replicate 32 0) (nI .i64 0) (nI .i64 0) (.ds true 0 []))), (1, some (eyeC y.2 (rdSgns y.1 (dec3 l).2).2)), (2, some (nI .i64 (beV (dec2 l).1) :: .sl 3 0 y.1 10 :: bC 0 0 0 (List.replicate 32 0) (nI .i64 0) (nI .i64 0) (.ds true 0 []))), (3, some (rows SgnD.cells (rdSgns y.1 (dec3 l).2).1))])
            (fun y => y.1 ≤ beV (dec3 l).1) (fun y => beV (dec3 l).1 - y.1) (0, g3) rfl ⟨⟨_, rfl, conv_nI (rfl)⟩, ⟨_, rfl, conv_nI (rfl)⟩, ⟨_, rfl, .ptr rfl⟩, ⟨_, rfl, .ptr rfl⟩, ⟨_, rfl, conv_nI (rfl)⟩, ⟨_, rfl, .ptr rfl⟩, trivial⟩ ⟨.inr ⟨_, _, rfl, rfl, .same rfl⟩, .inr ⟨_, _, rfl, rfl, convs_eq (c3'.symm) (eyeC_noHs _ _)⟩, .inr ⟨_, _, rfl, rfl, .cons (.same rfl) (.cons (.null rfl) (convs_eq rfl (bC_noHs rfl rfl rfl)))⟩, .inl ⟨rfl, rfl⟩, trivial⟩ (Nat.zero_le _) ?_
          rintro ⟨i, gi⟩ hi
          dsimp only at hi ⊢
          refine wpv_ok Γok (by kernel_rfl) _ _ _ ?_; conv => whnf
          refine bool_cases (fun hc => ?_) (fun hc => ?_)
          · have hc := of_decide_eq_true hc
            have ls := rdSgns_le (dec3 l).2 i
            have bs := rdSgns_lt b3 i
            have len := rdSgns_len (dec3 l).2 i
            have st : rdSgns (i + 1) (dec3 l).2 = ((rdSgns i (dec3 l).2).1 ++ [(rdSgn (rdSgns i (dec3 l).2).2).1], (rdSgn (rdSgns i (dec3 l).2).2).2) := rfl
            refine gen_ex (rdSgns i (dec3 l).2).1 fun L eL => ?_
            rw [← eL] at st len ⊢
            clear eL
            refine gen_ex (rdSgns i (dec3 l).2).2 fun s es => ?_
            rw [← es] at st ls bs ⊢
            clear es
            obtain ⟨h1, q1⟩ := rnum_fn (f := gi) s (n := 1) (by decide) (by omega) bs
            have m1 := EyS.take_le s 1
            have d1 := (EyS.take_lt bs 1).2
            have u1 := beV_lt 1 (s.take 1).1 (s.take_len 1) (EyS.take_lt bs 1).1
            rw [ws_i64 (by omega) (by omega)] at q1
            obtain ⟨h2, q2⟩ := rword_fn (f := h1) (s.take 1).2 (by omega)
            have m2 := EyS.take_le (s.take 1).2 32
            have d2 := (EyS.take_lt d1 32).2
            have r2 := from_fn ((s.take 1).2.take 32).1 (EyS.take_len _ 32) (EyS.take_lt d1 32).1
            obtain ⟨h3, q3⟩ := rword_fn (f := h2) ((s.take 1).2.take 32).2 (by omega)
            have m3 := EyS.take_le ((s.take 1).2.take 32).2 32
            have d3 := (EyS.take_lt d2 32).2
            have r3 := from_fn (((s.take 1).2.take 32).2.take 32).1 (EyS.take_len _ 32) (EyS.take_lt d2 32).1
            obtain ⟨h4, q4⟩ := rnum_fn (f := h3) (((s.take 1).2.take 32).2.take 32).2 (n := 1) (by decide) (by omega) d3
            have u4 := beV_lt 1 ((((s.take 1).2.take 32).2.take 32).2.take 1).1 (EyS.take_len _ 1) (EyS.take_lt d3 1).1
            rw [ws_i64 (by omega) (by omega)] at q4
            conv => whnf
            try (refine ⟨by kernel_rfl, ?_⟩; conv => whnf)
            refine ⟨_, ret_eye q1 rfl rfl (eyeC_noHs _ _) (eyeC_noHs _ _) rfl, ?_⟩
            conv => whnf
            try (refine ⟨by kernel_rfl, ?_⟩; conv => whnf)
            refine ⟨_, ret_eye q2 rfl (bts_noHs _) (eyeC_noHs _ _) (eyeC_noHs _ _) rfl, ?_⟩
            conv => whnf
            try (refine ⟨by kernel_rfl, ?_⟩; conv => whnf)
            refine ⟨_, ret_of_fn G0ok (r2) (by first | rfl | simp only [noHs, noH, nI, bI, Bool.and_self, Bool.and_true, Bool.true_and, bts_noHs]) (by first | rfl | simp only [noHs, noH, nI, bI, Bool.and_self, Bool.and_true, Bool.true_and, bts_noHs]), ?_⟩; (conv => whnf); (try (refine ⟨by kernel_rfl, ?_⟩; conv => whnf))
            refine ⟨_, ret_eye q3 rfl (bts_noHs _) (eyeC_noHs _ _) (eyeC_noHs _ _) rfl, ?_⟩
            conv => whnf
            try (refine ⟨by kernel_rfl, ?_⟩; conv => whnf)
            refine ⟨_, ret_of_fn G0ok (r3) (by first | rfl | simp only [noHs, noH, nI, bI, Bool.and_self, Bool.and_true, Bool.true_and, bts_noHs]) (by first | rfl | simp only [noHs, noH, nI, bI, Bool.and_self, Bool.and_true, Bool.true_and, bts_noHs]), ?_⟩; (conv => whnf); (try (refine ⟨by kernel_rfl, ?_⟩; conv => whnf))
            refine ⟨_, ret_eye q4 rfl rfl (eyeC_noHs _ _) (eyeC_noHs _ _) rfl, ?_⟩
            conv => whnf
            try (refine ⟨by kernel_rfl, ?_⟩; conv => whnf)
            refine .ownAs 1 (SgnD.cells (rdSgn s).1) rfl rfl ?_
            conv => whnf
            try (refine ⟨by kernel_rfl, ?_⟩; conv => whnf)
            have rl : (rows SgnD.cells L).length = i * 10 := by rw [rows_length (w := 10) fun a _ => sgnD_len a, len]
            refine onlyIf_intro (by show (Nat.beq (rows SgnD.cells L).length _ && _) = true; rw [rl]; simp [maxLen]; omega) ?_
            refine .ownAs (i + 1) (rows SgnD.cells (L ++ [(rdSgn s).1])) rfl (by rw [rows_app, rows_one]) ?_
            conv => whnf
            try (refine ⟨by kernel_rfl, ?_⟩; conv => whnf)
            refine next_round (y := (i, gi)) G0ok (i + 1, h4) [(0, some 0), (1, some 1), (2, some 2), (3, some 6)] rfl ⟨⟨_, rfl, conv_nI (ws_i64 (by omega) (by omega))⟩, ⟨_, rfl, conv_nI (rfl)⟩, ⟨_, rfl, .ptr rfl⟩, ⟨_, rfl, .ptr rfl⟩, ⟨_, rfl, conv_nI (rfl)⟩, ⟨_, rfl, .ptr rfl⟩, trivial⟩ ⟨.inr ⟨_, _, rfl, rfl, .same rfl⟩, .inr ⟨_, _, rfl, rfl, convs_eq (by rw [st]; rfl) (eyeC_noHs _ _)⟩, .inr ⟨_, _, rfl, rfl, .cons (.same rfl) (.cons (.sl rfl) (convs_eq rfl (bC_noHs rfl rfl rfl)))⟩, .inr ⟨_, _, rfl, rfl, convs_eq (by rw [st]) (rows_noHs sgnD_noHs _)⟩, trivial⟩ (by dsimp only; omega) (by dsimp only; omega)
          · have hc := of_decide_eq_false hc
            have en : i = beV (dec3 l).1 := by omega
            subst en
            have ls := rdSgns_le (dec3 l).2 (beV (dec3 l).1)
            have bs := rdSgns_lt b3 (beV (dec3 l).1)
            have len := rdSgns_len (dec3 l).2 (beV (dec3 l).1)
            have wh := rdSgns_w b3 (beV (dec3 l).1)
            obtain ⟨g5, t5⟩ := rdbody_fn (f := gi) (rdSgns (beV (dec3 l).1) (dec3 l).2).2 (by omega) bs
            have e4 : rdSgns (beV (dec3 l).1) (dec3 l).2 = dec4 l := rfl
            rw [e4] at ls bs len wh t5 ⊢
            have e5 : rdB (dec4 l).2 = dec5 l := rfl
            rw [e5] at t5
            have h32 : (dec5 l).1.em.length = 32 := em32 l
            have hld : (dec5 l).1.load.length ≤ 140737488355328 := Nat.le_trans (dload_le l) (by omega)
            clear e4 e5
            refine gen_ex (dec5 l) fun D eD => ?_
            rw [← eD] at t5 h32 hld ⊢
            clear eD
            refine gen_ex (dec4 l) fun E eE => ?_
            rw [← eE] at ls bs len wh t5 ⊢
            clear eE
            obtain ⟨L, s4⟩ := E
            obtain ⟨b, s5⟩ := D
            dsimp only at *
            conv => whnf
            try (refine ⟨by kernel_rfl, ?_⟩; conv => whnf)
            refine ⟨_, ret_eye t5 rfl (boI_noHs b) (eyeC_noHs _ _) (eyeC_noHs _ _) rfl, ?_⟩
            conv => whnf
            try (refine ⟨by kernel_rfl, ?_⟩; conv => whnf)
            have bl : b.cells.length = 38 := bC_len h32
            have bn := boI_noHs b
            refine onlyIf_intro (by rw [bl]; rfl) ?_
            conv => whnf
            try (refine ⟨by kernel_rfl, ?_⟩; conv => whnf)
            rw [splice_body (off := 0 + 2) rfl (bC_len (by rfl)) bl]
            have pn := papC_noHs (beV (dec2 l).1) false L b
            have pl := papC_len (set := beV (dec2 l).1) (f := false) (L := L) h32
            have ft := fault_fn (set := beV (dec2 l).1) (f := false) (L := L) (by omega) (by omega) wh h32 hld
            have dp : ∀ (k : Nat) (lkf : Nat → Option (List VV)), lkf 3 = some (rows SgnD.cells L) → deepV (k + 2) lkf (.agg (nI .i64 (beV (dec2 l).1) :: .sl 3 0 (beV (dec3 l).1) 10 :: b.cells)) = some (.agg (papC (beV (dec2 l).1) false L b)) := fun k lkf hk => by
              unfold papC
              rw [len]
              exact deep_agg rfl (mapO_cons (deepV_noH _ _ rfl) (mapO_cons (deep_row hk (by rw [rows_length (w := 10) fun a _ => sgnD_len a, len]) (rows_noHs sgnD_noHs _)) (mapO_noH (fun v hv => deepV_noH _ v hv) _ bn)))
            rcases Bool.eq_false_or_eq_true s5.ok with ok5 | ok5
            · rw [ok5]
              conv => whnf
              try (refine ⟨by kernel_rfl, ?_⟩; conv => whnf)
              refine bindP_intro (load_agg rfl rfl (by rw [List.length_cons, List.length_cons, bl])) ?_
              conv => whnf
              try (refine ⟨by kernel_rfl, ?_⟩; conv => whnf)
              refine ⟨_, ret_own [3] G0ok ft (mapO_cons (dp 1 _ rfl) mapO_nil) rfl, ?_⟩
              conv => whnf
              try (refine ⟨by kernel_rfl, ?_⟩; conv => whnf)
              rw [if_neg (show ¬ (true = false) from Bool.noConfusion)]
              rw [show (((chkB b : Nat) : Int) != 0) = !decide (chkB b = 0) from bne_lit _ 0]
              refine dec_cases' (chkB b = 0) (fun hq => ?_) (fun hq => ?_)
              · rw [decide_eq_false hq, if_neg hq]
                conv => whnf
                try (refine ⟨by kernel_rfl, ?_⟩; conv => whnf)
                exact ⟨_, rfl, rfl⟩
              · rw [decide_eq_true hq, if_pos hq, hq]
                conv => whnf
                try (refine ⟨by kernel_rfl, ?_⟩; conv => whnf)
                refine bindP_intro (load_agg rfl rfl (by rw [List.length_cons, List.length_cons, bl])) ?_
                conv => whnf
                try (refine ⟨by kernel_rfl, ?_⟩; conv => whnf)
                refine onlyIf_intro (by rw [List.length_cons, List.length_cons, bl]; rfl) ?_
                rw [splice_all (by rw [List.length_cons, List.length_cons, bl]; rfl)]
                conv => whnf
                try (refine ⟨by kernel_rfl, ?_⟩; conv => whnf)
                exact ⟨_, vres_two rfl (vres_cell rfl rfl (load_agg rfl rfl (by rw [List.length_cons, List.length_cons, bl]))) rfl, deep_tup (mapO_cons (dp 0 _ rfl) (mapO_cons (deepV_noH _ _ rfl) mapO_nil))⟩
            · rw [ok5]
              conv => whnf
              try (refine ⟨by kernel_rfl, ?_⟩; conv => whnf)
              exact ⟨_, rfl, rfl⟩
end Go.Proofs.Ytlecdiopokalgaa
namespace Go.Proofs.Ytlecdiopokalgaa
set_option linter.unusedVariables false
set_option linter.unusedSimpArgs false
set_option linter.unusedSectionVars false
open Go.ChangeShapes Go.WideShapes Go.ChangeAt Go.RowKit Go.Joins
set_option maxRecDepth 10000
theorem nB_from {c : List Nat} (hc : c.length = 32) (hb : ∀ x ∈ c, x < 256) : nB (fromV c 32) = c := by
  unfold nB
  rw [hid_eq]
  exact bytes_from hc hb
theorem rdSgn_true {s : EyS} (hb : ∀ x ∈ s.l, x < 256) (h : (rdSgn s).2.ok = true) : s.ok = true ∧ s.l = sgnB (rdSgn s).1 ++ (rdSgn s).2.l := by
  unfold rdSgn sgnB at *
  dsimp only at *
  obtain ⟨h4, e4⟩ := EyS.take_true h
  obtain ⟨h3, e3⟩ := EyS.take_true h4
  obtain ⟨h2, e2⟩ := EyS.take_true h3
  obtain ⟨h1, e1⟩ := EyS.take_true h2
  have b1 := EyS.take_lt hb 1
  have b2 := EyS.take_lt b1.2 32
  have b3 := EyS.take_lt b2.2 32
  have b4 := EyS.take_lt b3.2 1
  refine ⟨h1, ?_⟩
  rw [be_beV 1 _ (EyS.take_len _ 1) b1.1, nB_from (EyS.take_len _ 32) b2.1, nB_from (EyS.take_len _ 32) b3.1, be_beV 1 _ (EyS.take_len _ 1) b4.1]
  rw [List.append_assoc, List.append_assoc, List.append_assoc, ← e4, ← e3, ← e2, ← e1]
theorem rdSgns_true {s : EyS} (hb : ∀ x ∈ s.l, x < 256) : ∀ n, (rdSgns n s).2.ok = true → s.ok = true ∧ s.l = sgnsB (rdSgns n s).1 ++ (rdSgns n s).2.l
  | 0, h => ⟨h, rfl⟩
  | n + 1, h => by
    have h' : (rdSgn (rdSgns n s).2).2.ok = true := h
    obtain ⟨g1, g2⟩ := rdSgn_true (rdSgns_lt hb n) h'
    obtain ⟨k1, k2⟩ := rdSgns_true hb n g1
    refine ⟨k1, ?_⟩
    show s.l = sgnsB ((rdSgns n s).1 ++ [(rdSgn (rdSgns n s).2).1]) ++ (rdSgn (rdSgns n s).2).2.l
    unfold sgnsB at *
    rw [List.flatMap_append, List.flatMap_cons, List.flatMap_nil, List.append_nil, List.append_assoc, ← g2]
    exact k2
theorem rdN_small {s : EyS} {n : Nat} (hb : ∀ x ∈ s.l, x < 256) (hn : n ≤ 7) : rdN s n = ((beV (s.take n).1 : Nat) : Int) := by
  have h := beV_lt n _ (s.take_len n) (EyS.take_lt hb n).1
  have h2 : 2 ^ (8 * n) ≤ 2 ^ 56 := Nat.pow_le_pow_right (by decide) (by omega)
  unfold rdN
  exact ws_i64 (by omega) (by omega)
theorem rdN_pos {s : EyS} (hb : ∀ x ∈ s.l, x < 256) (h : 0 ≤ rdN s 8) : (rdN s 8).toNat = beV (s.take 8).1 := by
  have v := beV_lt 8 _ (s.take_len 8) (EyS.take_lt hb 8).1
  unfold rdN at *
  rcases Nat.lt_or_ge (beV (s.take 8).1) 9223372036854775808 with g | g
  · rw [ws_i64 (by omega) (by omega)]
    omega
  · rw [ws_i64_hi g (by omega)] at h
    omega
theorem rdB_true {s : EyS} (hb : ∀ x ∈ s.l, x < 256) (h : (rdB s).2.ok = true) (hc : chkB (rdB s).1 = 0) : s.ok = true ∧ s.l = bodyB (rdB s).1.d := by
  obtain ⟨c1, _, _, c4, _, _⟩ := chkB_zero hc
  rw [inR_iff] at c1 c4
  unfold rdB bodyB BoI.d at *
  dsimp only at *
  obtain ⟨h6, e6⟩ := EyS.take_true h
  obtain ⟨h5, e5⟩ := EyS.take_true h6
  obtain ⟨h4, e4⟩ := EyS.take_true h5
  obtain ⟨h3, e3⟩ := EyS.take_true h4
  obtain ⟨h2, e2⟩ := EyS.take_true h3
  obtain ⟨h1, e1⟩ := EyS.take_true h2
  have b1 := EyS.take_lt hb 8
  have b2 := EyS.take_lt b1.2 4
  have b3 := EyS.take_lt b2.2 2
  have b4 := EyS.take_lt b3.2 32
  have b5 := EyS.take_lt b4.2 8
  have b6 := EyS.take_lt b5.2 1
  refine ⟨h1, ?_⟩
  rw [rdN_pos hb c1.1, rdN_small b1.2 (by decide), rdN_small b2.2 (by decide), rdN_pos b4.2 c4.1, rdN_small b5.2 (by decide), Int.toNat_natCast, Int.toNat_natCast, Int.toNat_natCast]
  rw [be_beV 8 _ (EyS.take_len _ 8) b1.1, be_beV 4 _ (EyS.take_len _ 4) b2.1, be_beV 2 _ (EyS.take_len _ 2) b3.1, be_beV 8 _ (EyS.take_len _ 8) b5.1, be_beV 1 _ (EyS.take_len _ 1) b6.1]
  rw [List.append_assoc, List.append_assoc, List.append_assoc, List.append_assoc, List.append_assoc, ← e6, ← e5, ← e4, ← e3, ← e2, ← e1]
theorem decC_zero {l : List Nat} (h : decC l = 0) : (dec5 l).2.ok = true ∧ chkB (dec5 l).1 = 0 ∧ ¬ ((dec1 l).2.ok = true ∧ beV (dec1 l).1 ≠ 1) ∧ ¬ ((dec3 l).2.ok = true ∧ 19 < beV (dec3 l).1) := by
  unfold decC at h
  split at h
  · cases h
  · split at h
    · cases h
    · split at h
      · cases h
      · rename_i h1 h2 h3
        exact ⟨by cases e : (dec5 l).2.ok; exact absurd e h3; rfl, h, h1, h2⟩
/-- What is read is written just so. -/
theorem enc_dec {l : List Nat} (hb : ∀ x ∈ l, x < 256) (h : decC l = 0) : l = encB (beV (dec2 l).1) (dec4 l).1 (dec5 l).1 ∧ beV (dec2 l).1 ≤ 4294967295 ∧ (dec4 l).1.length ≤ 19 ∧ (∀ x ∈ (dec4 l).1, x.who ≤ 255 ∧ x.odd ≤ 255) := by
  obtain ⟨o5, hc, hA, hB⟩ := decC_zero h
  have b1 : (∀ x ∈ (dec1 l).1, x < 256) ∧ ∀ x ∈ (dec1 l).2.l, x < 256 := EyS.take_lt (s := ⟨l, true⟩) hb 1
  have b2 : (∀ x ∈ (dec2 l).1, x < 256) ∧ ∀ x ∈ (dec2 l).2.l, x < 256 := EyS.take_lt b1.2 4
  have b3 : (∀ x ∈ (dec3 l).1, x < 256) ∧ ∀ x ∈ (dec3 l).2.l, x < 256 := EyS.take_lt b2.2 1
  have b4 : ∀ x ∈ (dec4 l).2.l, x < 256 := rdSgns_lt (s := (dec3 l).2) b3.2 (beV (dec3 l).1)
  have g5 : (dec4 l).2.ok = true ∧ (dec4 l).2.l = bodyB (dec5 l).1.d := rdB_true b4 o5 hc
  have g4 : (dec3 l).2.ok = true ∧ (dec3 l).2.l = sgnsB (dec4 l).1 ++ (dec4 l).2.l := rdSgns_true (s := (dec3 l).2) b3.2 (beV (dec3 l).1) g5.1
  have g3 : (dec2 l).2.ok = true ∧ (dec2 l).2.l = (dec3 l).1 ++ (dec3 l).2.l := EyS.take_true (s := (dec2 l).2) (n := 1) g4.1
  have g2 : (dec1 l).2.ok = true ∧ (dec1 l).2.l = (dec2 l).1 ++ (dec2 l).2.l := EyS.take_true (s := (dec1 l).2) (n := 4) g3.1
  have g1 : true = true ∧ l = (dec1 l).1 ++ (dec1 l).2.l := EyS.take_true (s := ⟨l, true⟩) (n := 1) g2.1
  have t1 : (dec1 l).1.length = 1 := EyS.take_len _ 1
  have t2 : (dec2 l).1.length = 4 := EyS.take_len _ 4
  have t3 : (dec3 l).1.length = 1 := EyS.take_len _ 1
  have o1 := g2.1
  have o3 := g4.1
  have v1 : beV (dec1 l).1 = 1 := Classical.byContradiction fun e => hA ⟨o1, e⟩
  have n1 : beV (dec3 l).1 ≤ 19 := Classical.byContradiction fun e => hB ⟨o3, by omega⟩
  have len : (dec4 l).1.length = beV (dec3 l).1 := rdSgns_len _ _
  have v2 : beV (dec2 l).1 < 2 ^ (8 * 4) := beV_lt 4 _ t2 b2.1
  refine ⟨?_, by omega, by omega, rdSgns_w b3.2 _⟩
  unfold encB headB
  have e11 : be 1 1 = (dec1 l).1 := by
    have := be_beV 1 (dec1 l).1 t1 b1.1
    rwa [v1] at this
  rw [len, e11, be_beV 4 (dec2 l).1 t2 b2.1, be_beV 1 (dec3 l).1 t3 b3.1]
  rw [List.append_assoc, List.append_assoc, List.append_assoc, ← g5.2, ← g4.2, ← g3.2, ← g2.2]
  exact g1.2
theorem rdSgns_bad {s : EyS} (h : s.ok = false) : ∀ n, (rdSgns n s).2.ok = false
  | 0 => h
  | n + 1 => by
    show (rdSgn (rdSgns n s).2).2.ok = false
    unfold rdSgn
    exact EyS.take_bad (EyS.take_bad (EyS.take_bad (EyS.take_bad (rdSgns_bad h n))))
theorem rdB_bad {s : EyS} (h : s.ok = false) : (rdB s).2.ok = false := by
  have h1 := EyS.take_bad (n := 8) h
  have h2 := EyS.take_bad (n := 4) h1
  have h3 := EyS.take_bad (n := 2) h2
  have h4 := EyS.take_bad (n := 32) h3
  have h5 := EyS.take_bad (n := 8) h4
  have h6 := EyS.take_bad (n := 1) h5
  unfold rdB
  dsimp only
  exact h6
/-- What breaks off is too short. -/
theorem decC_bad {l : List Nat} (h1 : (dec1 l).2.ok = true → beV (dec1 l).1 = 1) (h3 : (dec3 l).2.ok = true → beV (dec3 l).1 ≤ 19) (h5 : (dec5 l).2.ok = false) : decC l = 4 := by
  have a1 : ¬ ((dec1 l).2.ok = true ∧ beV (dec1 l).1 ≠ 1) := fun h => h.2 (h1 h.1)
  have a3 : ¬ ((dec3 l).2.ok = true ∧ 19 < beV (dec3 l).1) := fun h => by have := h3 h.1; omega
  unfold decC
  rw [if_neg a1, if_neg a3, if_pos h5]
theorem decC_short {l : List Nat} (h1 : (dec1 l).2.ok = false) : decC l = 4 := by
  have h2 : (dec2 l).2.ok = false := EyS.take_bad h1
  have h3 : (dec3 l).2.ok = false := EyS.take_bad h2
  have h4 : (dec4 l).2.ok = false := rdSgns_bad h3 _
  have h5 : (dec5 l).2.ok = false := rdB_bad h4
  exact decC_bad (fun h => absurd (h1.symm.trans h) (by decide)) (fun h => absurd (h3.symm.trans h) (by decide)) h5
theorem decC_nil : decC [] = 4 := decC_short rfl
end Go.Proofs.Ytlecdiopokalgaa
namespace Go.Proofs.Ytlecdiopokalgaa
set_option linter.unusedVariables false
set_option linter.unusedSimpArgs false
set_option linter.unusedSectionVars false
open Go.ChangeShapes Go.WideShapes Go.ChangeAt Go.RowKit Go.Joins
set_option maxRecDepth 10000
set_option linter.constructorNameAsVariable false
section
variable {H : Type} {enc : TypeId × Value → H} {r : Reach} {W : World} {base b0 : Nat} {spare : Nat → Bool} {held : Bool} {v : Value} {d : DataW H} {p : List MemPlace}
theorem bytes_open (hv : Value.okWide Try.prog W r b0 27 v) (h : DataW.Trod enc Try.prog W base spare held 27 v d p) : ∃ l : List Nat, l.length ≤ 9223372036854775807 ∧ (∀ x ∈ l, x < 256) ∧ VR (E0 W (fun _ => True)) (.ds false l.length (bts l)) v := by
  have hc4 : Try.prog.cellsOf 5 = 1 := by kernel_rfl
  obtain ⟨fuel, hf⟩ := h
  obtain ⟨a0, len, cap, rfl⟩ := Go.WideShapes.okWide_slice Try.underlying27 hv
  rcases Go.Deep.open_slice Try.underlying27 hf with ⟨hcs, _⟩ | ⟨a, len1, cap1, m, n, D, Pl, hcs, hb, hl, hm, hmm, _, hx⟩
  · simp only [Value.cells, List.cons.injEq, and_true] at hcs
    cases hcs
    exact ⟨[], Nat.zero_le _, by simp, by simp only [VR]; exact .inl ⟨rfl, rfl, none, rfl⟩⟩
  · simp only [Value.cells, List.cons.injEq, and_true] at hcs
    cases hcs
    unfold Value.okWide at hv
    rw [Try.underlying27] at hv
    have hv : Cell.okWide Try.prog W r b0 27 (.slice (some a) len cap) := hv
    unfold Cell.okWide at hv
    rw [Try.underlying27] at hv
    have hv : Cell.ok Try.prog W r b0 27 (.slice (some a) len cap) := hv
    unfold Cell.ok at hv
    rw [Try.underlying27] at hv
    obtain ⟨_, _, _, hspot, row, cells, hsh, _⟩ := hv
    have hlt : a.block < W.heap.size := by
      unfold World.shape? at hsh
      split at hsh
      · rename_i hh; exact (Array.getElem?_eq_some_iff.1 hh).1
      · cases hsh
    have hml : len ≤ m := by rw [hmm]; split <;> omega
    have hx' : ∀ i, i < len → ∃ q : Nat, q < 256 ∧ W.cells? base (a.add (i * 1)) 1 = some [.int .u8 q] := fun i hi => by
      obtain ⟨cs', h1, h2⟩ := hx i (by omega)
      obtain ⟨k, e1, _, w1⟩ := DataW.trod_int Try.underlying5 h2
      have b1 := bounds_u8 w1
      rw [hc4, e1] at h1
      refine ⟨k.toNat, by omega, ?_⟩
      rw [h1, show ((k.toNat : Nat) : Int) = k by omega]
    have key : ∀ k, k ≤ len → ∃ l : List Nat, l.length = k ∧ (∀ q ∈ l, q < 256) ∧ ∀ (i : Nat) (u : Value), (l.map fun (x : Nat) => Value.int .u8 x)[i]? = some u → W.cell? ⟨a.block, a.off + i, none⟩ = some u := by
      intro k
      induction k with
      | zero => exact fun _ => ⟨[], rfl, by simp, by simp⟩
      | succ k ih =>
        intro hk
        obtain ⟨l, l1, l2, l3⟩ := ih (by omega)
        obtain ⟨q, q1, q2⟩ := hx' k (by omega)
        refine ⟨l ++ [q], by simp [l1], ?_, fun i u hu => ?_⟩
        · intro x hx
          rcases List.mem_append.1 hx with h | h
          · exact l2 x h
          · simp at h; subst h; exact q1
        · rw [List.map_append, List.getElem?_append] at hu
          split at hu
          · exact l3 i u hu
          · rename_i hge
            rw [List.length_map, l1] at hu hge
            have hi1 : i - k < 1 := by
              have := (List.getElem?_eq_some_iff.1 hu).1
              simpa using this
            have hik : i = k := by omega
            subst hik
            have hu2 : u = .int .u8 q := by simpa using hu.symm
            obtain ⟨_, _, h3⟩ := World.cells?_some q2
            have h4 := h3 0 (by decide)
            rw [hu2]
            have ea : (a.add (i * 1)).add 0 = ⟨a.block, a.off + i, none⟩ := by
              obtain ⟨ab, ao, asp⟩ := a
              simp only at hspot; subst hspot
              rw [Addr.add_lit, Addr.add_lit, Nat.mul_one, Nat.add_zero]
            rw [ea] at h4
            exact h4
    obtain ⟨l, l1, l2, l3⟩ := key len (Nat.le_refl _)
    have hM : maxLen = 9223372036854775807 := by decide
    have hml2 : l.length ≤ 9223372036854775807 := by omega
    refine ⟨l, hml2, l2, ?_⟩
    simp only [VR]
    refine .inr ⟨a.block, a.off, cap, trivial, hlt, ?_, by omega, (by simp), l.map fun (x : Nat) => Value.int .u8 x, l3, ?_, ?_⟩
    · obtain ⟨ab, ao, asp⟩ := a
      simp only at hspot; subst hspot
      rw [l1]
    · clear l3 l2 l1 hml2
      unfold bts
      induction l with
      | nil => simp [VRs]
      | cons q l ih => exact VRs.cons rfl ih
    · intro u hu
      obtain ⟨q, _, rfl⟩ := List.mem_map.1 hu
      rfl
theorem bytes_openz (hz : ∀ e s, d = .slice e s → e.length ≤ 140737488351232) (hv : Value.okWide Try.prog W r b0 27 v) (h : DataW.Trod enc Try.prog W base spare held 27 v d p) : ∃ l : List Nat, l.length ≤ 140737488351232 ∧ (∀ x ∈ l, x < 256) ∧ VR (E0 W (fun _ => True)) (.ds false l.length (bts l)) v := by
  have hc4 : Try.prog.cellsOf 5 = 1 := by kernel_rfl
  obtain ⟨fuel, hf⟩ := h
  obtain ⟨a0, len, cap, rfl⟩ := Go.WideShapes.okWide_slice Try.underlying27 hv
  rcases Go.Deep.open_slice Try.underlying27 hf with ⟨hcs, _⟩ | ⟨a, len1, cap1, m, n, D, Pl, hcs, hb, hl, hm, hmm, hxe, hx⟩
  · simp only [Value.cells, List.cons.injEq, and_true] at hcs
    cases hcs
    exact ⟨[], Nat.zero_le _, by simp, by simp only [VR]; exact .inl ⟨rfl, rfl, none, rfl⟩⟩
  · simp only [Value.cells, List.cons.injEq, and_true] at hcs
    cases hcs
    unfold Value.okWide at hv
    rw [Try.underlying27] at hv
    have hv : Cell.okWide Try.prog W r b0 27 (.slice (some a) len cap) := hv
    unfold Cell.okWide at hv
    rw [Try.underlying27] at hv
    have hv : Cell.ok Try.prog W r b0 27 (.slice (some a) len cap) := hv
    unfold Cell.ok at hv
    rw [Try.underlying27] at hv
    obtain ⟨_, _, _, hspot, row, cells, hsh, _⟩ := hv
    have hlt : a.block < W.heap.size := by
      unfold World.shape? at hsh
      split at hsh
      · rename_i hh; exact (Array.getElem?_eq_some_iff.1 hh).1
      · cases hsh
    have hml : len ≤ m := by rw [hmm]; split <;> omega
    have hx' : ∀ i, i < len → ∃ q : Nat, q < 256 ∧ W.cells? base (a.add (i * 1)) 1 = some [.int .u8 q] := fun i hi => by
      obtain ⟨cs', h1, h2⟩ := hx i (by omega)
      obtain ⟨k, e1, _, w1⟩ := DataW.trod_int Try.underlying5 h2
      have b1 := bounds_u8 w1
      rw [hc4, e1] at h1
      refine ⟨k.toNat, by omega, ?_⟩
      rw [h1, show ((k.toNat : Nat) : Int) = k by omega]
    have key : ∀ k, k ≤ len → ∃ l : List Nat, l.length = k ∧ (∀ q ∈ l, q < 256) ∧ ∀ (i : Nat) (u : Value), (l.map fun (x : Nat) => Value.int .u8 x)[i]? = some u → W.cell? ⟨a.block, a.off + i, none⟩ = some u := by
      intro k
      induction k with
      | zero => exact fun _ => ⟨[], rfl, by simp, by simp⟩
      | succ k ih =>
        intro hk
        obtain ⟨l, l1, l2, l3⟩ := ih (by omega)
        obtain ⟨q, q1, q2⟩ := hx' k (by omega)
        refine ⟨l ++ [q], by simp [l1], ?_, fun i u hu => ?_⟩
        · intro x hx
          rcases List.mem_append.1 hx with h | h
          · exact l2 x h
          · simp at h; subst h; exact q1
        · rw [List.map_append, List.getElem?_append] at hu
          split at hu
          · exact l3 i u hu
          · rename_i hge
            rw [List.length_map, l1] at hu hge
            have hi1 : i - k < 1 := by
              have := (List.getElem?_eq_some_iff.1 hu).1
              simpa using this
            have hik : i = k := by omega
            subst hik
            have hu2 : u = .int .u8 q := by simpa using hu.symm
            obtain ⟨_, _, h3⟩ := World.cells?_some q2
            have h4 := h3 0 (by decide)
            rw [hu2]
            have ea : (a.add (i * 1)).add 0 = ⟨a.block, a.off + i, none⟩ := by
              obtain ⟨ab, ao, asp⟩ := a
              simp only at hspot; subst hspot
              rw [Addr.add_lit, Addr.add_lit, Nat.mul_one, Nat.add_zero]
            rw [ea] at h4
            exact h4
    obtain ⟨l, l1, l2, l3⟩ := key len (Nat.le_refl _)
    have hM : maxLen = 9223372036854775807 := by decide
    have hml2 : l.length ≤ 140737488351232 := by
      have := hz _ _ (Prod.mk.inj hxe).1
      rw [List.length_map, List.length_range] at this
      omega
    refine ⟨l, hml2, l2, ?_⟩
    simp only [VR]
    refine .inr ⟨a.block, a.off, cap, trivial, hlt, ?_, by omega, (by simp), l.map fun (x : Nat) => Value.int .u8 x, l3, ?_, ?_⟩
    · obtain ⟨ab, ao, asp⟩ := a
      simp only at hspot; subst hspot
      rw [l1]
    · clear l3 l2 l1 hml2
      unfold bts
      induction l with
      | nil => simp [VRs]
      | cons q l ih => exact VRs.cons rfl ih
    · intro u hu
      obtain ⟨q, _, rfl⟩ := List.mem_map.1 hu
      rfl
end
end Go.Proofs.Ytlecdiopokalgaa
