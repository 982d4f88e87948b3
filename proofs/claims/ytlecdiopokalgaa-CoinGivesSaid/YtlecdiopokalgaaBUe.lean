/- bytes.Compare: the model's entry for internal/bytealg.Compare, and a contract over it. -/
import Derived.Test.YtlecdiopokalgaaBUa
import Derived.Laws.Externs
import Derived.WalkKit
import Derived.WalkSpells
import Derived.WalkLawsBesides
import Derived.Test.YtlecdiopokalgaaBUc
namespace Go.Proofs.Ytlecdiopokalgaa
set_option linter.unusedVariables false
set_option linter.unusedSimpArgs false
set_option linter.unusedSectionVars false
open Go.ChangeShapes Go.WideShapes Go.ChangeAt Go.RowKit Go.Joins
set_option maxRecDepth 10000
/-- Which of two lists of one length comes first: -1, 0 or 1. -/
def cmpB : List Nat → List Nat → Int
  | x :: A, y :: B => if x = y then cmpB A B else if x < y then -1 else 1
  | _, _ => 0
def u8s (A : List Nat) : List UInt8 := A.map fun n => n.toUInt8
theorem u8_injC {x y : Nat} (hx : x < 256) (hy : y < 256) : (x.toUInt8 = y.toUInt8) ↔ x = y := by
  constructor
  · intro h
    have := congrArg UInt8.toNat h
    simp at this
    omega
  · intro h; rw [h]
theorem u8_ltC {x y : Nat} (hx : x < 256) (hy : y < 256) : (x.toUInt8 < y.toUInt8) ↔ x < y := by
  rw [UInt8.lt_iff_toNat_lt]
  simp
  rw [Nat.mod_eq_of_lt hx, Nat.mod_eq_of_lt hy]
theorem ba_get (l : List UInt8) (i : Nat) : (ByteArray.mk l.toArray)[i]! = l.getD i 0 := by
  by_cases h : i < l.length
  · rw [getElem!_pos (ByteArray.mk l.toArray) i h, List.getD_eq_getElem?_getD, List.getElem?_eq_getElem h]
    rfl
  · rw [getElem!_neg (ByteArray.mk l.toArray) i h, List.getD_eq_getElem?_getD, List.getElem?_eq_none (by omega)]
    rfl
theorem add_none (b off n : Nat) : (⟨b, off, none⟩ : Addr).add n = ⟨b, off + n, none⟩ := by
  unfold Addr.add
  split
  · rename_i h; subst h; rfl
  · rfl
theorem add_one_add (a : Addr) (i : Nat) : (a.add 1).add i = a.add (i + 1) := by
  unfold Addr.add
  by_cases h : i = 0
  · subst h; rfl
  · rw [if_neg h, if_neg (by decide), if_neg (by omega)]
    congr 1
    show a.off + 1 + i = a.off + (i + 1)
    omega
theorem cmp_find : ∀ (A B : List Nat), A.length = B.length → (∀ x ∈ A, x < 256) → (∀ x ∈ B, x < 256) →
    (match (List.range A.length).find? (fun i => (u8s A).getD i 0 != (u8s B).getD i 0) with
      | some i => if (u8s A).getD i 0 < (u8s B).getD i 0 then (-1 : Int) else 1
      | none => 0) = cmpB A B
  | [], [], _, _, _ => rfl
  | [], _ :: _, h, _, _ => by cases h
  | _ :: _, [], h, _, _ => by cases h
  | x :: A, y :: B, h, ha, hb => by
    have ih := cmp_find A B (by simpa using h) (fun z hz => ha z (List.mem_cons_of_mem _ hz)) (fun z hz => hb z (List.mem_cons_of_mem _ hz))
    have hx := ha x List.mem_cons_self
    have hy := hb y List.mem_cons_self
    rw [List.length_cons, List.range_succ_eq_map, List.find?_cons]
    show (match (match x.toUInt8 != y.toUInt8 with | true => some 0 | false => _) with | some i => _ | none => _) = _
    unfold cmpB
    by_cases e : x = y
    · subst e
      rw [show (x.toUInt8 != x.toUInt8) = false from bne_self_eq_false _, if_pos rfl, List.find?_map]
      dsimp only
      rw [← ih]
      have e2 : ((fun i => (u8s (x :: A)).getD i 0 != (u8s (x :: B)).getD i 0) ∘ Nat.succ) = fun i => (u8s A).getD i 0 != (u8s B).getD i 0 := rfl
      rw [e2]
      cases (List.range A.length).find? (fun i => (u8s A).getD i 0 != (u8s B).getD i 0) <;> rfl
    · rw [show (x.toUInt8 != y.toUInt8) = true from bne_iff_ne.2 fun g => e ((u8_injC hx hy).1 g), if_neg e]
      show (if x.toUInt8 < y.toUInt8 then (-1 : Int) else 1) = _
      simp only [u8_ltC hx hy]
theorem cmp_eq {A B : List Nat} (h : A.length = B.length) (ha : ∀ x ∈ A, x < 256) (hb : ∀ x ∈ B, x < 256) : Extern.BytealgCompare.cmp ⟨(u8s A).toArray⟩ ⟨(u8s B).toArray⟩ = cmpB A B := by
  unfold Extern.BytealgCompare.cmp
  have l1 : (ByteArray.mk (u8s A).toArray).size = A.length := by show (u8s A).length = _; unfold u8s; rw [List.length_map]
  have l2 : (ByteArray.mk (u8s B).toArray).size = A.length := by show (u8s B).length = _; unfold u8s; rw [List.length_map, h]
  rw [← cmp_find A B h ha hb, l1, l2, Nat.min_self]
  simp only [ba_get]
  split <;> rename_i q
  · rw [q]
  · rw [q]
    simp
theorem load_bytes {P : Program} {w : World} : ∀ (l : List Nat) (a : Addr) (acc : List UInt8), (∀ x ∈ l, x < 256) → (∀ (i : Nat) (x : Nat), l[i]? = some x → w.cell? (a.add i) = some (.int .u8 (x : Int))) →
    (Extern.Bytes.loadBytes a l.length ⟨acc.toArray⟩).run P w = .ok ⟨(acc ++ u8s l).toArray⟩ w
  | [], a, acc, _, _ => by
    rw [show u8s [] = [] from rfl, List.append_nil]
    rfl
  | x :: l, a, acc, hl, h => by
    have h0 := h 0 x rfl
    rw [show a.add 0 = a from by cases a; rfl] at h0
    have ih := load_bytes (P := P) (w := w) l (a.add 1) (acc ++ [x.toUInt8]) (fun z hz => hl z (List.mem_cons_of_mem _ hz)) (fun i z hz => by
      have := h (i + 1) z (by simpa using hz)
      rwa [add_one_add])
    unfold Extern.Bytes.loadBytes
    simp only [Sem.run_bind, run_load, h0, Result.andThen, List.length_cons]
    rw [show (ByteArray.push ⟨acc.toArray⟩ ((x : Int).toNat.toUInt8)) = ⟨(acc ++ [x.toUInt8]).toArray⟩ from by
      show ByteArray.mk (acc.toArray.push _) = _
      simp]
    rw [ih, show u8s (x :: l) = x.toUInt8 :: u8s l from rfl, List.append_assoc]
    rfl
theorem bytes_of {P : Program} {w : World} {A : Nat → Prop} {f : Bool} {l : List Nat} {u : Value} (hl : ∀ x ∈ l, x < 256) (h0 : 0 < l.length) (h : VR (E0 w A) (.ds f l.length (bts l)) u) : (Extern.Bytes.bytesOf u).run P w = .ok ⟨(u8s l).toArray⟩ w := by
  simp only [VR] at h
  rcases h with ⟨h1, _⟩ | ⟨b, off, cap, hA, hb, rfl, _, _, us, hu, hv, _⟩
  · omega
  · have := load_bytes (P := P) (w := w) l ⟨b, off, none⟩ [] hl (fun i x hx => by
      have e := VRs.get hv (i := i) (c := nI .u8 (x : Int)) (by unfold bts; rw [List.getElem?_map, hx]; rfl)
      obtain ⟨v, e1, e2⟩ := e
      simp only [VR, nI] at e2
      subst e2
      rw [add_none]
      exact hu i _ e1)
    exact this
theorem bcmp0_fn {fa fb : Bool} {A B : List Nat} (h : A.length = B.length) (h0 : 0 < A.length) (ha : ∀ x ∈ A, x < 256) (hb : ∀ x ∈ B, x < 256) : FnV Try.prog G0 76 [.ds fa A.length (bts A), .ds fb B.length (bts B)] (nI .i64 (cmpB A B)) := by
  intro w S args _ hargs
  simp only [VRs] at hargs
  obtain ⟨u1, us1, e1, v1, u2, us2, e2, v2, e3⟩ := hargs
  subst e3 e2
  have hr : args = #[u1, u2] := by rw [← Array.toList_inj, e1]
  subst hr
  unfold FGoes
  rw [run_callFunc_extern Try.func76 (by kernel_rfl) (by kernel_rfl) (by kernel_rfl) (e := Extern.BytealgCompare.compare) (by kernel_rfl)]
  have hc : (Extern.BytealgCompare.compare #[u1, u2]).run Try.prog w = .ok (.int .i64 (cmpB A B)) w := by
    change Sem.run _ (do pure (goInt (Extern.BytealgCompare.cmp (← Extern.Bytes.bytesOf u1) (← Extern.Bytes.bytesOf u2)))) w = _
    simp only [Sem.run_bind, bytes_of ha h0 v1, bytes_of hb (h ▸ h0) v2, Result.andThen, Sem.run_pure, cmp_eq h ha hb]
    rfl
  rw [hc]
  exact ⟨rfl, Below.refl _ _⟩
theorem bcmp_fn {fa fb : Bool} {A B : List Nat} (h : A.length = B.length) (h0 : 0 < A.length) (ha : ∀ x ∈ A, x < 256) (hb : ∀ x ∈ B, x < 256) : FnV Try.prog G0 64 [.ds fa A.length (bts A), .ds fb B.length (bts B)] (nI .i64 (cmpB A B)) := by
  have c := bcmp0_fn (fa := fa) (fb := fb) h h0 ha hb
  refine fn_of_vwp Γok Try.func64 (by kernel_rfl) rfl (by simp [Try.ntmps64]) (wpv_ok Γok (by kernel_rfl) _ _ _ ?_); conv => whnf
  refine ⟨_, ret_of_fn G0ok (c) (by first | rfl | simp only [noHs, noH, nI, bI, Bool.and_self, Bool.and_true, Bool.true_and, bts_noHs]) (by first | rfl | simp only [noHs, noH, nI, bI, Bool.and_self, Bool.and_true, Bool.true_and, bts_noHs]), ?_⟩; (conv => whnf); (try (refine ⟨by kernel_rfl, ?_⟩; conv => whnf))
  exact ⟨_, rfl, rfl⟩
end Go.Proofs.Ytlecdiopokalgaa
namespace Go.Proofs.Ytlecdiopokalgaa
set_option linter.unusedVariables false
set_option linter.unusedSimpArgs false
set_option linter.unusedSectionVars false
theorem cmpB_self : ∀ A : List Nat, cmpB A A = 0
  | [] => rfl
  | x :: A => by unfold cmpB; rw [if_pos rfl]; exact cmpB_self A
theorem cmpB_tri : ∀ A B : List Nat, cmpB A B = -1 ∨ cmpB A B = 0 ∨ cmpB A B = 1
  | [], _ => .inr (.inl rfl)
  | _ :: _, [] => .inr (.inl rfl)
  | x :: A, y :: B => by
    unfold cmpB
    split
    · exact cmpB_tri A B
    · split
      · exact .inl rfl
      · exact .inr (.inr rfl)
theorem cmpB_zero : ∀ A B : List Nat, A.length = B.length → (cmpB A B = 0 ↔ A = B)
  | [], [], _ => ⟨fun _ => rfl, fun _ => rfl⟩
  | [], _ :: _, h => by cases h
  | _ :: _, [], h => by cases h
  | x :: A, y :: B, h => by
    unfold cmpB
    by_cases e : x = y
    · subst e
      rw [if_pos rfl, cmpB_zero A B (by simpa using h)]
      simp
    · rw [if_neg e]
      constructor
      · intro g; split at g <;> cases g
      · intro g; cases g; exact absurd rfl e
theorem cmpB_swap : ∀ A B : List Nat, cmpB B A = -cmpB A B
  | [], [] => rfl
  | [], _ :: _ => rfl
  | _ :: _, [] => rfl
  | x :: A, y :: B => by
    unfold cmpB
    by_cases e : x = y
    · subst e; rw [if_pos rfl, if_pos rfl]; exact cmpB_swap A B
    · rw [if_neg e, if_neg (fun g => e g.symm)]
      rcases Nat.lt_or_gt_of_ne e with g | g
      · rw [if_pos g, if_neg (by omega)]; rfl
      · rw [if_pos (show y < x from g), if_neg (show ¬ x < y by omega)]
theorem cmpB_trans : ∀ A B C : List Nat, A.length = B.length → B.length = C.length → cmpB A B < 0 → cmpB B C < 0 → cmpB A C < 0
  | [], _, _, _, _, h, _ => by simp [cmpB] at h
  | _ :: _, [], _, h, _, _, _ => by cases h
  | _ :: _, _ :: _, [], _, h, _, _ => by cases h
  | x :: A, y :: B, z :: C, h1, h2, p, q => by
    unfold cmpB at p q ⊢
    by_cases e : x = y
    · subst e
      rw [if_pos rfl] at p
      by_cases f : x = z
      · subst f
        rw [if_pos rfl] at q ⊢
        exact cmpB_trans A B C (by simpa using h1) (by simpa using h2) p q
      · rw [if_neg f] at q ⊢; exact q
    · rw [if_neg e] at p
      have xy : x < y := by
        by_cases g : x < y
        · exact g
        · rw [if_neg g] at p; omega
      by_cases f : y = z
      · subst f
        rw [if_neg e, if_pos xy]
        decide
      · rw [if_neg f] at q
        have yz : y < z := by
          by_cases g : y < z
          · exact g
          · rw [if_neg g] at q; omega
        rw [if_neg (by omega), if_pos (by omega)]
        decide
/-- Who holds how much. -/
structure HoD where
  who : List Nat
  amt : Nat
def WhoOk (w : List Nat) : Prop := w.length = 32 ∧ ∀ x ∈ w, x < 256
def sumM : List HoD → Nat
  | [] => 0
  | h :: t => h.amt + sumM t
def ofM : List HoD → List Nat → Nat
  | [], _ => 0
  | h :: t, w => if h.who = w then h.amt else ofM t w
def newM (w : List Nat) (n : Nat) : List HoD := if n = 0 then [] else [⟨w, n⟩]
def withM : List HoD → List Nat → Nat → List HoD
  | [], w, n => newM w n
  | h :: t, w, n => if cmpB h.who w < 0 then h :: withM t w n else if h.who = w then newM w n ++ t else newM w n ++ h :: t
def posM : List HoD → List Nat → Nat
  | [], _ => 0
  | h :: t, w => if cmpB h.who w < 0 then posM t w + 1 else 0
def hasM : List HoD → List Nat → Bool
  | [], _ => false
  | h :: t, w => if cmpB h.who w < 0 then hasM t w else decide (h.who = w)
/-- Holdings in order. -/
structure HolOk (M : List HoD) : Prop where
  who : ∀ h ∈ M, WhoOk h.who
  pos : ∀ h ∈ M, 0 < h.amt
  srt : M.Pairwise fun a b => cmpB a.who b.who < 0
theorem hol_nil : HolOk [] := ⟨by simp, by simp, .nil⟩
theorem HolOk.tail {h : HoD} {t : List HoD} (k : HolOk (h :: t)) : HolOk t := ⟨fun x hx => k.who x (List.mem_cons_of_mem _ hx), fun x hx => k.pos x (List.mem_cons_of_mem _ hx), (List.pairwise_cons.1 k.srt).2⟩
theorem HolOk.head {h : HoD} {t : List HoD} (k : HolOk (h :: t)) : WhoOk h.who ∧ 0 < h.amt ∧ ∀ x ∈ t, cmpB h.who x.who < 0 := ⟨k.who h List.mem_cons_self, k.pos h List.mem_cons_self, (List.pairwise_cons.1 k.srt).1⟩
theorem of_above : ∀ (t : List HoD) (w : List Nat), WhoOk w → (∀ x ∈ t, cmpB w x.who < 0) → ofM t w = 0
  | [], _, _, _ => rfl
  | h :: t, w, hw, k => by
    unfold ofM
    have := k h List.mem_cons_self
    rw [if_neg (fun e => by rw [e, cmpB_self] at this; omega)]
    exact of_above t w hw fun x hx => k x (List.mem_cons_of_mem _ hx)
theorem above_trans {h : HoD} {t : List HoD} (k : HolOk (h :: t)) {w : List Nat} (hw : WhoOk w) (lt : cmpB w h.who < 0) : ∀ x ∈ h :: t, cmpB w x.who < 0 := by
  intro x hx
  rcases List.mem_cons.1 hx with e | e
  · subst e; exact lt
  · exact cmpB_trans _ _ _ (by rw [hw.1, k.head.1.1]) (by rw [k.head.1.1, (k.who x hx).1]) lt (k.head.2.2 x e)
theorem lt_of_not {h : HoD} {w : List Nat} (hw : WhoOk w) (hh : WhoOk h.who) (a : ¬ cmpB h.who w < 0) (b : ¬ h.who = w) : cmpB w h.who < 0 := by
  have z : cmpB h.who w ≠ 0 := fun e => b ((cmpB_zero _ _ (by rw [hw.1, hh.1])).1 e)
  have := cmpB_tri h.who w
  rw [cmpB_swap h.who w]
  omega
theorem of_new {w v : List Nat} {n : Nat} {t : List HoD} : ofM (newM w n ++ t) v = if w = v ∧ n ≠ 0 then n else ofM t v := by
  unfold newM
  by_cases h0 : n = 0
  · rw [if_pos h0, if_neg (fun h => h.2 h0)]; rfl
  · rw [if_neg h0]
    show (if w = v then n else ofM t v) = _
    by_cases e : w = v
    · rw [if_pos e, if_pos ⟨e, h0⟩]
    · rw [if_neg e, if_neg (fun h => e h.1)]
theorem of_with : ∀ (M : List HoD) (w v : List Nat) (n : Nat), HolOk M → WhoOk w → ofM (withM M w n) v = if w = v then n else ofM M v
  | [], w, v, n, _, _ => by
    have := of_new (w := w) (v := v) (n := n) (t := [])
    rw [List.append_nil] at this
    show ofM (newM w n) v = _
    rw [this]
    by_cases e : w = v
    · by_cases h0 : n = 0
      · rw [if_neg (fun h => h.2 h0), if_pos e, h0]; rfl
      · rw [if_pos ⟨e, h0⟩, if_pos e]
    · rw [if_neg (fun h => e h.1), if_neg e]
  | h :: t, w, v, n, k, hw => by
    have hh := k.head
    unfold withM
    by_cases a : cmpB h.who w < 0
    · rw [if_pos a]
      show (if h.who = v then h.amt else ofM (withM t w n) v) = if w = v then n else if h.who = v then h.amt else ofM t v
      rw [of_with t w v n k.tail hw]
      by_cases e : h.who = v
      · rw [if_pos e, if_pos e, if_neg (fun g => by subst g; rw [e, cmpB_self] at a; omega)]
      · rw [if_neg e, if_neg e]
    · rw [if_neg a]
      by_cases b : h.who = w
      · rw [if_pos b, of_new]
        show _ = if w = v then n else if h.who = v then h.amt else ofM t v
        rw [b]
        by_cases e : w = v
        · rw [if_pos e]
          by_cases h0 : n = 0
          · rw [if_neg (fun h => h.2 h0), ← e, of_above t w hw (b ▸ hh.2.2), h0]
          · rw [if_pos ⟨e, h0⟩]
        · rw [if_neg (fun h => e h.1), if_neg e, if_neg e]
      · rw [if_neg b, of_new]
        by_cases e : w = v
        · rw [if_pos e]
          by_cases h0 : n = 0
          · rw [if_neg (fun h => h.2 h0), ← e, of_above (h :: t) w hw (above_trans k hw (lt_of_not hw hh.1 a b)), h0]
          · rw [if_pos ⟨e, h0⟩]
        · rw [if_neg (fun h => e h.1), if_neg e]
theorem sum_new {w : List Nat} {n : Nat} {t : List HoD} : sumM (newM w n ++ t) = n + sumM t := by
  unfold newM
  by_cases h0 : n = 0
  · rw [if_pos h0, h0, Nat.zero_add]; rfl
  · rw [if_neg h0]; rfl
theorem sum_with : ∀ (M : List HoD) (w : List Nat) (n : Nat), HolOk M → WhoOk w → sumM (withM M w n) + ofM M w = sumM M + n
  | [], w, n, _, _ => by
    have := sum_new (w := w) (n := n) (t := [])
    rw [List.append_nil] at this
    show sumM (newM w n) + 0 = 0 + n
    rw [this]
    show n + 0 + 0 = 0 + n
    omega
  | h :: t, w, n, k, hw => by
    have hh := k.head
    unfold withM
    by_cases a : cmpB h.who w < 0
    · rw [if_pos a]
      show h.amt + sumM (withM t w n) + (if h.who = w then h.amt else ofM t w) = h.amt + sumM t + n
      rw [if_neg (fun e => by rw [e, cmpB_self] at a; omega)]
      have := sum_with t w n k.tail hw
      omega
    · rw [if_neg a]
      by_cases b : h.who = w
      · rw [if_pos b, sum_new]
        show n + sumM t + (if h.who = w then h.amt else ofM t w) = h.amt + sumM t + n
        rw [if_pos b]
        omega
      · rw [if_neg b, sum_new, of_above (h :: t) w hw (above_trans k hw (lt_of_not hw hh.1 a b))]
        omega
theorem of_le : ∀ (M : List HoD) (w : List Nat), ofM M w ≤ sumM M
  | [], _ => Nat.le_refl _
  | h :: t, w => by
    show (if h.who = w then h.amt else ofM t w) ≤ h.amt + sumM t
    have := of_le t w
    split <;> omega
theorem mem_new {w : List Nat} {n : Nat} {x : HoD} (h : x ∈ newM w n) : x = ⟨w, n⟩ ∧ n ≠ 0 := by
  unfold newM at h
  split at h
  · cases h
  · rename_i h0; exact ⟨List.mem_singleton.1 h, h0⟩
theorem mem_with : ∀ (M : List HoD) (w : List Nat) (n : Nat) (x : HoD), x ∈ withM M w n → x ∈ M ∨ (x = ⟨w, n⟩ ∧ n ≠ 0)
  | [], w, n, x, h => .inr (mem_new h)
  | h :: t, w, n, x, hx => by
    unfold withM at hx
    split at hx
    · rcases List.mem_cons.1 hx with e | e
      · exact .inl (e ▸ List.mem_cons_self)
      · rcases mem_with t w n x e with g | g
        · exact .inl (List.mem_cons_of_mem _ g)
        · exact .inr g
    · split at hx
      · rcases List.mem_append.1 hx with e | e
        · exact .inr (mem_new e)
        · exact .inl (List.mem_cons_of_mem _ e)
      · rcases List.mem_append.1 hx with e | e
        · exact .inr (mem_new e)
        · exact .inl e
theorem with_srt : ∀ (M : List HoD) (w : List Nat) (n : Nat), HolOk M → WhoOk w → (withM M w n).Pairwise fun a b => cmpB a.who b.who < 0
  | [], w, n, _, _ => by
    show (newM w n).Pairwise _
    unfold newM
    split <;> simp
  | h :: t, w, n, k, hw => by
    have hh := k.head
    unfold withM
    by_cases a : cmpB h.who w < 0
    · rw [if_pos a]
      refine List.pairwise_cons.2 ⟨fun x hx => ?_, with_srt t w n k.tail hw⟩
      rcases mem_with t w n x hx with g | g
      · exact hh.2.2 x g
      · rw [g.1]; exact a
    · rw [if_neg a]
      by_cases b : h.who = w
      · rw [if_pos b]
        refine List.pairwise_append.2 ⟨?_, k.tail.srt, fun x hx y hy => ?_⟩
        · unfold newM; split <;> simp
        · rw [(mem_new hx).1]; rw [← b]; exact hh.2.2 y hy
      · rw [if_neg b]
        refine List.pairwise_append.2 ⟨?_, k.srt, fun x hx y hy => ?_⟩
        · unfold newM; split <;> simp
        · rw [(mem_new hx).1]; exact above_trans k hw (lt_of_not hw hh.1 a b) y hy
theorem with_ok {M : List HoD} {w : List Nat} {n : Nat} (k : HolOk M) (hw : WhoOk w) : HolOk (withM M w n) := by
  refine ⟨fun x hx => ?_, fun x hx => ?_, with_srt M w n k hw⟩
  · rcases mem_with M w n x hx with g | g
    · exact k.who x g
    · rw [g.1]; exact hw
  · rcases mem_with M w n x hx with g | g
    · exact k.pos x g
    · rw [g.1]; exact Nat.pos_of_ne_zero g.2
theorem new_len (w : List Nat) (n : Nat) : (newM w n).length ≤ 1 := by
  unfold newM
  split <;> simp
theorem with_len : ∀ (M : List HoD) (w : List Nat) (n : Nat), (withM M w n).length ≤ M.length + 1
  | [], w, n => new_len w n
  | h :: t, w, n => by
    have := new_len w n
    have := with_len t w n
    unfold withM
    split
    · simp only [List.length_cons]; omega
    · split <;> simp only [List.length_append, List.length_cons] <;> omega
theorem with_self : ∀ (M : List HoD) (w : List Nat), HolOk M → WhoOk w → withM M w (ofM M w) = M
  | [], _, _, _ => rfl
  | h :: t, w, k, hw => by
    have hh := k.head
    unfold withM
    by_cases a : cmpB h.who w < 0
    · rw [if_pos a]
      show h :: withM t w (if h.who = w then h.amt else ofM t w) = _
      rw [if_neg (fun e => by rw [e, cmpB_self] at a; omega), with_self t w k.tail hw]
    · rw [if_neg a]
      by_cases b : h.who = w
      · rw [if_pos b]
        show newM w (if h.who = w then h.amt else ofM t w) ++ t = _
        rw [if_pos b]
        unfold newM
        rw [if_neg (by omega), ← b]
        rfl
      · rw [if_neg b, of_above (h :: t) w hw (above_trans k hw (lt_of_not hw hh.1 a b))]
        rfl
theorem with_new {h : HoD} {t : List HoD} {w : List Nat} {n m : Nat} (k : HolOk t) (hw : WhoOk w) (ab : ∀ x ∈ t, cmpB w x.who < 0) : withM (newM w n ++ t) w m = newM w m ++ t := by
  have hl : withM t w m = newM w m ++ t := by
    cases t with
    | nil => rw [List.append_nil]; rfl
    | cons x t =>
      have q := ab x List.mem_cons_self
      have := cmpB_swap w x.who
      unfold withM
      rw [if_neg (by omega), if_neg (fun e => by rw [e, cmpB_self] at q; omega)]
  by_cases h0 : n = 0
  · rw [show newM w n = [] from if_pos h0]; exact hl
  · rw [show newM w n = [⟨w, n⟩] from if_neg h0]
    show withM (⟨w, n⟩ :: t) w m = _
    unfold withM
    rw [if_neg (by rw [cmpB_self]; omega), if_pos rfl]
theorem with_with : ∀ (M : List HoD) (w : List Nat) (n m : Nat), HolOk M → WhoOk w → withM (withM M w n) w m = withM M w m
  | [], w, n, m, k, hw => by
    have := with_new (h := ⟨w, n⟩) (n := n) (m := m) k hw (by simp)
    rw [List.append_nil, List.append_nil] at this
    exact this
  | h :: t, w, n, m, k, hw => by
    have hh := k.head
    show withM (if cmpB h.who w < 0 then h :: withM t w n else if h.who = w then newM w n ++ t else newM w n ++ h :: t) w m = if cmpB h.who w < 0 then h :: withM t w m else if h.who = w then newM w m ++ t else newM w m ++ h :: t
    by_cases a : cmpB h.who w < 0
    · rw [if_pos a, if_pos a]
      show (if cmpB h.who w < 0 then h :: withM (withM t w n) w m else _) = _
      rw [if_pos a, with_with t w n m k.tail hw]
    · rw [if_neg a, if_neg a]
      by_cases b : h.who = w
      · rw [if_pos b, if_pos b]
        exact with_new (h := h) k.tail hw (b ▸ hh.2.2)
      · rw [if_neg b, if_neg b]
        exact with_new (h := h) k hw (above_trans k hw (lt_of_not hw hh.1 a b))
theorem with_back {M : List HoD} {w : List Nat} {n : Nat} (k : HolOk M) (hw : WhoOk w) : withM (withM M w n) w (ofM M w) = M := by rw [with_with M w n _ k hw, with_self M w k hw]
theorem pos_le : ∀ (M : List HoD) (w : List Nat), posM M w ≤ M.length
  | [], _ => Nat.le_refl _
  | h :: t, w => by
    have := pos_le t w
    unfold posM
    split
    · simp only [List.length_cons]; omega
    · omega
theorem pos_lt : ∀ (M : List HoD) (w : List Nat) (i : Nat) (hi : i < M.length), i < posM M w → cmpB M[i].who w < 0
  | h :: t, w, 0, _, hp => by
    unfold posM at hp
    split at hp
    · rename_i g; exact g
    · omega
  | h :: t, w, i + 1, hi, hp => by
    unfold posM at hp
    split at hp
    · exact pos_lt t w i (by simpa using hi) (by omega)
    · omega
theorem pos_at : ∀ (M : List HoD) (w : List Nat) (hi : posM M w < M.length), ¬ cmpB M[posM M w].who w < 0 ∧ hasM M w = decide (M[posM M w].who = w)
  | h :: t, w, hi => by
    unfold posM hasM
    by_cases a : cmpB h.who w < 0
    · have e : posM (h :: t) w = posM t w + 1 := by show (if cmpB h.who w < 0 then posM t w + 1 else 0) = _; rw [if_pos a]
      have hi2 : posM t w < t.length := by rw [e] at hi; simpa using hi
      simp only [if_pos a, List.getElem_cons_succ]
      exact pos_at t w hi2
    · simp only [if_neg a, List.getElem_cons_zero]
      exact ⟨a, trivial⟩
theorem has_lt : ∀ (M : List HoD) (w : List Nat), hasM M w = true → posM M w < M.length
  | [], _, h => by cases h
  | h :: t, w, g => by
    unfold hasM at g
    unfold posM
    split at g
    · rename_i a; rw [if_pos a]; have := has_lt t w g; simp only [List.length_cons]; omega
    · rename_i a; rw [if_neg a]; simp
theorem has_not : ∀ (M : List HoD) (w : List Nat), posM M w = M.length → hasM M w = false
  | M, w, h => by
    cases e : hasM M w with
    | false => rfl
    | true => have := has_lt M w e; omega
theorem of_has : ∀ (M : List HoD) (w : List Nat), HolOk M → WhoOk w → (hasM M w = false → ofM M w = 0) ∧ (hasM M w = true → ∀ (hi : posM M w < M.length), ofM M w = M[posM M w].amt)
  | [], w, _, _ => ⟨fun _ => rfl, fun h => by cases h⟩
  | h :: t, w, k, hw => by
    have hh := k.head
    unfold hasM posM ofM
    by_cases a : cmpB h.who w < 0
    · obtain ⟨i1, i2⟩ := of_has t w k.tail hw
      simp only [if_pos a, List.getElem_cons_succ]
      rw [if_neg (fun e => by rw [e, cmpB_self] at a; omega)]
      exact ⟨i1, fun g hi => i2 g _⟩
    · simp only [if_neg a, List.getElem_cons_zero]
      by_cases b : h.who = w
      · rw [if_pos b]
        exact ⟨fun g => by simp [b] at g, fun _ _ => rfl⟩
      · rw [if_neg b]
        refine ⟨fun _ => ?_, fun g => by simp [b] at g⟩
        have := of_above (h :: t) w hw (above_trans k hw (lt_of_not hw hh.1 a b))
        unfold ofM at this
        rwa [if_neg b] at this
/-- What with puts together. -/
theorem with_eq : ∀ (M : List HoD) (w : List Nat) (n : Nat), withM M w n = M.take (posM M w) ++ (newM w n ++ M.drop (posM M w + if hasM M w = true then 1 else 0))
  | [], w, n => by
    show newM w n = _
    simp [posM]
  | h :: t, w, n => by
    unfold withM posM hasM
    by_cases a : cmpB h.who w < 0
    · simp only [if_pos a]
      rw [with_eq t w n, List.take_succ_cons, List.cons_append]
      congr 3
      rw [show posM t w + 1 + (if hasM t w = true then 1 else 0) = (posM t w + if hasM t w = true then 1 else 0) + 1 by omega, List.drop_succ_cons]
    · simp only [if_neg a]
      by_cases b : h.who = w
      · simp [b]
      · simp [b]
end Go.Proofs.Ytlecdiopokalgaa
namespace Go.Proofs.Ytlecdiopokalgaa
set_option linter.unusedVariables false
set_option linter.unusedSimpArgs false
set_option linter.unusedSectionVars false
open Go.ChangeShapes Go.WideShapes Go.ChangeAt Go.RowKit Go.Joins
set_option maxRecDepth 10000
def sub64Ent : Array Value → Sem Value := fun args => do
  let (x, y, b) ← Extern.MathBitsCarry.three "Sub64" args
  pure (Extern.MathBitsCarry.pair ((x + Extern.MathBitsCarry.m64 - y - b) % Extern.MathBitsCarry.m64) (if x < y + b then 1 else 0))
theorem runSub64 (x y b : Nat) (hb : b ≤ 1) (w : World) :
    (sub64Ent #[.int .u64 x, .int .u64 y, .int .u64 b]).run Try.prog w = .ok (.tuple #[.int .u64 (dif x y b), .int .u64 (bor x y b)]) w := by
  have : b = 0 ∨ b = 1 := by omega
  rcases this with rfl | rfl <;> rfl
theorem callSub64 {x y b : Nat} (hb : b ≤ 1) (w : World) :
    (callFunc 67 #[.int .u64 x, .int .u64 y, .int .u64 b]).run Try.prog w = .ok (.value (.tuple #[.int .u64 (dif x y b), .int .u64 (bor x y b)])) w := by
  rw [run_callFunc_extern Try.func67 (by kernel_rfl) (by kernel_rfl) (by kernel_rfl) (e := sub64Ent) (by kernel_rfl), runSub64 x y b hb]
  rfl
theorem sub64_fn {x y c : Nat} (hc : c ≤ 1) : FnV Try.prog G0 67 [nI .u64 x, nI .u64 y, nI .u64 c] (.tup [nI .u64 (dif x y c), nI .u64 (bor x y c)]) :=
  fn_val (us := [.int .u64 x, .int .u64 y, .int .u64 c]) (callSub64 hc) (fun E => by simp [VR, VRs, nI])
theorem sub_fn4 (a0 a1 a2 a3 b0 b1 b2 b3 c1 c2 c3 : Nat) (h1 : bor a0 b0 0 = c1) (h2 : bor a1 b1 c1 = c2) (h3 : bor a2 b2 c2 = c3) (k1 : c1 ≤ 1) (k2 : c2 ≤ 1) (k3 : c3 ≤ 1) :
    FnV Try.prog G0 40 [.agg (words [a0, a1, a2, a3]), .agg (words [b0, b1, b2, b3])]
      (.tup [.agg (words [dif a0 b0 0, dif a1 b1 c1, dif a2 b2 c2, dif a3 b3 c3]), bI (((bor a3 b3 c3 : Nat) : Int) == 1)]) := by
  refine fn_of_vwp Γok Try.func40 (by kernel_rfl) rfl (by simp [Try.ntmps40]) (wpv_ok Γok (by kernel_rfl) _ _ _ ?_); conv => whnf
  refine vloop_unroll ?_
  refine wpv_ok Γok (by kernel_rfl) _ _ _ ?_; conv => whnf
  refine ⟨_, ret_of_fn G0ok (sub64_fn (x := a0) (y := b0) (c := 0) (by omega)) (by rfl) rfl, ?_⟩; conv => whnf
  refine ⟨by kernel_rfl, ?_⟩
  rw [h1]
  conv => whnf
  refine vloop_unroll ?_
  refine wpv_ok Γok (by kernel_rfl) _ _ _ ?_; conv => whnf
  rw [ws_i64 (by omega) (by omega)]
  conv => whnf
  refine ⟨_, ret_of_fn G0ok (sub64_fn (x := a1) (y := b1) k1) (by rfl) rfl, ?_⟩; conv => whnf
  refine ⟨by kernel_rfl, ?_⟩
  rw [h2]
  conv => whnf
  refine vloop_unroll ?_
  refine wpv_ok Γok (by kernel_rfl) _ _ _ ?_; conv => whnf
  rw [ws_i64 (by omega) (by omega)]
  conv => whnf
  refine ⟨_, ret_of_fn G0ok (sub64_fn (x := a2) (y := b2) k2) (by rfl) rfl, ?_⟩; conv => whnf
  refine ⟨by kernel_rfl, ?_⟩
  rw [h3]
  conv => whnf
  refine vloop_unroll ?_
  refine wpv_ok Γok (by kernel_rfl) _ _ _ ?_; conv => whnf
  rw [ws_i64 (by omega) (by omega)]
  conv => whnf
  refine ⟨_, ret_of_fn G0ok (sub64_fn (x := a3) (y := b3) k3) (by rfl) rfl, ?_⟩; conv => whnf
  refine ⟨by kernel_rfl, ?_⟩
  conv => whnf
  refine vloop_unroll ?_
  refine wpv_ok Γok (by kernel_rfl) _ _ _ ?_; conv => whnf
  rw [ws_i64 (by omega) (by omega)]
  conv => whnf
  exact ⟨_, rfl, rfl⟩
theorem sub_fn {a b : Nat} (ha : a < T256) (hb : b < T256) : FnV Try.prog G0 40 [uV a, uV b] (.tup [uV (subS a b), bI (subO a b)]) := by
  obtain ⟨a0, a1, a2, a3, k0, k1, k2, k3, rfl⟩ := limbs ha
  obtain ⟨b0, b1, b2, b3, m0, m1, m2, m3, rfl⟩ := limbs hb
  have q1 := bor_le a0 b0 0
  have q2 := bor_le a1 b1 (bor a0 b0 0)
  have q3 := bor_le a2 b2 (bor a1 b1 (bor a0 b0 0))
  obtain ⟨e1, e2⟩ := sub_val4 k0 k1 k2 k3 m0 m1 m2 m3
  rw [e1, e2, ← beq_one, uV_val4 k0 k1 k2 k3, uV_val4 m0 m1 m2 m3, uV_val4 (dif_lt _ _ _) (dif_lt _ _ _) (dif_lt _ _ _) (dif_lt _ _ _)]
  exact sub_fn4 a0 a1 a2 a3 b0 b1 b2 b3 _ _ _ rfl rfl rfl q1 q2 q3
end Go.Proofs.Ytlecdiopokalgaa
namespace Go.Proofs.Ytlecdiopokalgaa
set_option linter.unusedVariables false
set_option linter.unusedSimpArgs false
set_option linter.unusedSectionVars false
open Go.ChangeShapes Go.WideShapes Go.ChangeAt Go.RowKit Go.Joins
set_option maxRecDepth 10000
noncomputable def HoD.cells (s : HoD) : List VV := bts s.who ++ uC s.amt
theorem uC_noHs (n : Nat) : noHs (uC n) = true := rfl
theorem eqz_uC {a : Nat} (ha : a < T256) : EqAgg Try.prog .eql 42 (uC a) (words [0, 0, 0, 0]) (decide (a = 0)) := by
  have h := eq_uC ha (b := 0) (by decide)
  rwa [uC_lit (n := 0) (by decide)] at h
theorem nez_uC {a : Nat} (ha : a < T256) : EqAgg Try.prog .neq 42 (uC a) (words [0, 0, 0, 0]) (!decide (a = 0)) := by
  have h := ne_uC ha (b := 0) (by decide)
  rwa [uC_lit (n := 0) (by decide)] at h
theorem hoD_noHs (s : HoD) : noHs s.cells = true := noHs_app (bts_noHs _) (uC_noHs _)
theorem hoD_len {s : HoD} (h : WhoOk s.who) : s.cells.length = 36 := by
  unfold HoD.cells
  rw [List.length_append, bts_length, h.1]
  rfl
noncomputable def coinC (f : Bool) (M : List HoD) (s : Nat) : List VV := [nI .u64 (lim s 0), nI .u64 (lim s 1), nI .u64 (lim s 2), nI .u64 (lim s 3), .ds f M.length (rows HoD.cells M)]
theorem coinC_noHs (f : Bool) (M : List HoD) (s : Nat) : noHs (coinC f M s) = true := by
  unfold coinC
  simp only [noHs, noH, nI, rows_noHs hoD_noHs, Bool.and_self]
theorem deep_part {k : Nat} {lkf : Nat → Option (List VV)} {h off n wd : Nat} {cs xs : List VV} (h1 : lkf h = some cs) (h2 : off + n * wd ≤ cs.length) (h3 : (cs.drop off).take (n * wd) = xs) (h4 : noHs xs = true) : deepV (k + 1) lkf (.sl h off n wd) = some (.ds false n xs) := by
  have hp : part? cs off (n * wd) = some xs := by
    unfold part?
    split
    · rename_i hw
      exact congrArg some ((whole_of hw).1.trans h3)
    · rw [show Nat.ble (off + n * wd) cs.length = true from Nat.ble_eq_true_of_le h2, ← h3]
  unfold deepV
  simp only [h1, hp, h4]
theorem hoD_who {s : HoD} (h : WhoOk s.who) : (s.cells.drop 0).take (32 * 1) = bts s.who := by
  unfold HoD.cells
  rw [List.drop_zero, List.take_append_of_le_length (by rw [bts_length, h.1]; decide), List.take_of_length_le (by rw [bts_length, h.1]; decide)]
theorem bts_all {w : List Nat} (h : WhoOk w) : ((bts w).drop 0).take (32 * 1) = bts w := by
  rw [List.drop_zero, List.take_of_length_le (by rw [bts_length, h.1]; decide)]
theorem vpure_build2 {t : TypeId} {x y : Operand} {ev : Operand → VV} {r : TR} {fs : List (Nat × TypeId)} {pl : List (Nat × Nat)} {n m : Nat} {a b : List VV} (ht : Γ t = some r) (hd : r.d = .struct fs) (hp : vplaces Γ fs = some pl) (h0 : pl[0]? = some (0, n)) (h1 : pl[1]? = some (n, m))
    (hx : ev x = .agg a) (hy : ev y = .agg b) (hn : a.length = n) (hm : b.length = m) (hz : r.zero.length = n + m) : vpure Γ (.build t #[(0, x), (1, y)]) ev = some (.agg (a ++ b)) := by
  show vbuild Γ t [(0, ev x), (1, ev y)] = _
  unfold vbuild
  simp only [ht, hd, hp, hx, hy, vfill, h0, h1, cellsOf]
  have l1 : (splice r.zero 0 a).length = n + m := by simp only [splice, List.length_append, List.length_take, List.length_drop]; omega
  rw [if_pos ⟨hn, by omega⟩]
  try dsimp only
  rw [if_pos ⟨hm, by omega⟩]
  try dsimp only
  congr 2
  have e1 : splice r.zero 0 a = a ++ r.zero.drop n := by simp only [splice, List.take_zero, List.nil_append, Nat.zero_add, hn]
  rw [e1]
  simp only [splice]
  rw [List.take_append_of_le_length (by omega), List.take_of_length_le (by omega), List.drop_eq_nil_of_le (by rw [List.length_append, List.length_drop]; omega), List.append_nil]
theorem find_fn {f : Bool} {M : List HoD} {s : Nat} {w : List Nat} (k : HolOk M) (hM : M.length ≤ 100) (hw : WhoOk w) : FnV Try.prog G0 75 [.agg (coinC f M s), .agg (bts w)] (.tup [nI .i64 (posM M w), bI (hasM M w)]) := by
  have nM : noHs (rows HoD.cells M) = true := rows_noHs hoD_noHs M
  unfold coinC
  refine fn_of_vwp Γok Try.func75 (by kernel_rfl) rfl (by simp [Try.ntmps75]) (wpv_ok Γok (by kernel_rfl) _ _ _ ?_); conv => whnf
  have nC : noHs [nI .u64 (lim s 0), nI .u64 (lim s 1), nI .u64 (lim s 2), nI .u64 (lim s 3), .ds f M.length (rows HoD.cells M)] = true := coinC_noHs f M s
  refine vloop_invK G0ok [(0, some 0), (1, some 1)] 2 (X := Nat) (fun i => [(12, nI .i64 i), (11, nI .i64 M.length), (10, .ds f M.length (rows HoD.cells M)), (5, bI false), (4, nI .i64 0), (3, .ptr 1 0), (2, .ptr 0 0)]) (fun _ => [(0, some [nI .u64 (lim s 0), nI .u64 (lim s 1), nI .u64 (lim s 2), nI .u64 (lim s 3), .ds f M.length (rows HoD.cells M)]), (1, some (bts w))]) (fun i => i ≤ M.length ∧ i ≤ posM M w) (fun i => M.length - i) 0 rfl
    ⟨⟨_, rfl, conv_nI (rfl)⟩, ⟨_, rfl, conv_nI (rfl)⟩, ⟨_, rfl, conv_eq rfl (nM)⟩, ⟨_, rfl, .same rfl⟩, ⟨_, rfl, conv_nI (rfl)⟩, ⟨_, rfl, .ptr rfl⟩, ⟨_, rfl, .ptr rfl⟩, trivial⟩ ⟨.inr ⟨_, _, rfl, rfl, .same (nC)⟩, .inr ⟨_, _, rfl, rfl, .same (bts_noHs _)⟩, trivial⟩ ⟨Nat.zero_le _, Nat.zero_le _⟩ ?_
  rintro i ⟨hi, hp⟩
  dsimp only at hi hp ⊢
  refine wpv_ok Γok (by kernel_rfl) _ _ _ ?_; conv => whnf
  refine bool_cases (fun hc => ?_) (fun hc => ?_)
  · have hc := of_decide_eq_true hc
    have hc : i < M.length := by omega
    have kw := k.who _ (List.getElem_mem hc)
    have pl := pos_lt M w i hc
    have pa : ∀ (e : i = posM M w), ¬ cmpB M[i].who w < 0 ∧ hasM M w = decide (M[i].who = w) := fun e => by subst e; exact pos_at M w hc
    conv => whnf
    try (refine ⟨by kernel_rfl, ?_⟩; conv => whnf)
    refine bindP_intro (if_pos (inB_ok (by omega) (by omega))) ?_; conv => whnf
    refine bindP_intro (row_load (i := i) (w := 36) rfl rfl rfl (fun a ha => hoD_len (k.who a ha)) (by dsimp only; omega) hc) ?_
    refine gen_ex M[i] fun h eh => ?_
    rw [← eh] at kw pl pa ⊢
    clear eh
    have hl := hoD_len kw
    have nh := hoD_noHs h
    conv => whnf
    try (refine ⟨by kernel_rfl, ?_⟩; conv => whnf)
    refine onlyIf_intro (by simp [words_length, *, hl]) ?_; rw [splice_all (by simp [words_length, *, hl])]; conv => whnf
    refine onlyIf_intro (by rw [hl]; rfl) ?_
    conv => whnf
    try (refine ⟨by kernel_rfl, ?_⟩; conv => whnf)
    refine onlyIf_intro (by rw [bts_length, hw.1]; rfl) ?_
    conv => whnf
    try (refine ⟨by kernel_rfl, ?_⟩; conv => whnf)
    have bc := bcmp_fn (fa := false) (fb := false) (A := h.who) (B := w) (by rw [kw.1, hw.1]) (by rw [kw.1]; decide) kw.2 hw.2
    rw [kw.1, hw.1] at bc
    refine ⟨_, ret_own [2, 1] G0ok (bc) (mapO_cons (deep_part rfl (by rw [hl]; decide) (show (h.cells.drop 0).take (32 * 1) = bts h.who from hoD_who kw) (bts_noHs _)) (mapO_cons (deep_part rfl (by rw [bts_length, hw.1]; decide) (show ((bts w).drop 0).take (32 * 1) = bts w from bts_all hw) (bts_noHs _)) mapO_nil)) rfl, ?_⟩; (conv => whnf); (try (refine ⟨by kernel_rfl, ?_⟩; conv => whnf))
    by_cases hg : cmpB h.who w < 0
    · rw [decide_eq_false (show ¬ cmpB h.who w ≥ 0 by omega)]
      have hp2 : i + 1 ≤ posM M w := by
        rcases Nat.lt_or_ge i (posM M w) with q | q
        · exact q
        · exact absurd hg (pa (by omega)).1
      conv => whnf
      try (refine ⟨by kernel_rfl, ?_⟩; conv => whnf)
      refine next_round (y := i) G0ok (i + 1) [(0, some 0), (1, some 1)] rfl ⟨⟨_, rfl, conv_nI (ws_i64 (by omega) (by omega))⟩, ⟨_, rfl, conv_nI (rfl)⟩, ⟨_, rfl, conv_eq rfl (nM)⟩, ⟨_, rfl, .same rfl⟩, ⟨_, rfl, conv_nI (rfl)⟩, ⟨_, rfl, .ptr rfl⟩, ⟨_, rfl, .ptr rfl⟩, trivial⟩ ⟨.inr ⟨_, _, rfl, rfl, .same (nC)⟩, .inr ⟨_, _, rfl, rfl, .same (bts_noHs _)⟩, trivial⟩ ⟨by omega, hp2⟩ (by omega)
    · rw [decide_eq_true (show cmpB h.who w ≥ 0 by omega)]
      conv => whnf
      try (refine ⟨by kernel_rfl, ?_⟩; conv => whnf)
      have e : i = posM M w := by
        rcases Nat.lt_or_ge i (posM M w) with q | q
        · exact absurd (pl q) hg
        · omega
      have hz := (cmpB_zero h.who w (by rw [kw.1, hw.1]))
      rw [show (cmpB h.who w == 0) = hasM M w from by
        rw [(pa e).2]
        by_cases q : h.who = w
        · rw [decide_eq_true q, hz.2 q]; rfl
        · rw [decide_eq_false q]; exact beq_false_of_ne fun g => q (hz.1 g)]
      conv => whnf
      try (refine ⟨by kernel_rfl, ?_⟩; conv => whnf)
      rw [e]
      exact ⟨_, rfl, rfl⟩
  · have hc := of_decide_eq_false hc
    have e : i = M.length := by omega
    subst e
    have e2 : posM M w = M.length := by have := pos_le M w; omega
    rw [e2, has_not M w e2]
    conv => whnf
    try (refine ⟨by kernel_rfl, ?_⟩; conv => whnf)
    exact ⟨_, rfl, rfl⟩
theorem hoD_amt {s : HoD} (h : WhoOk s.who) : (s.cells.drop 32).take 4 = uC s.amt := by
  unfold HoD.cells
  rw [List.drop_append_of_le_length (by rw [bts_length, h.1]; decide), List.drop_of_length_le (by rw [bts_length, h.1]; decide), List.nil_append, List.take_of_length_le (by exact Nat.le_refl 4)]
theorem rows_amt {M : List HoD} (k : ∀ h ∈ M, WhoOk h.who) {i j : Nat} (hi : i < M.length) (hj : j = i * 36 + 32) : ((rows HoD.cells M).drop j).take 4 = uC M[i].amt := by
  have e := row_at (f := HoD.cells) (w := 36) (fun a ha => hoD_len (k a ha)) hi
  rw [← hoD_amt (k _ (List.getElem_mem hi)), ← e, List.drop_take, List.take_take, List.drop_drop, hj]
  rfl
theorem rows_len {M : List HoD} (k : ∀ h ∈ M, WhoOk h.who) : (rows HoD.cells M).length = M.length * 36 := rows_length (w := 36) fun a ha => hoD_len (k a ha)
theorem of_fn {f : Bool} {M : List HoD} {s : Nat} {w : List Nat} (k : HolOk M) (hM : M.length ≤ 100) (hw : WhoOk w) : FnV Try.prog G0 62 [.agg (coinC f M s), .agg (bts w)] (uV (ofM M w)) := by
  have nM : noHs (rows HoD.cells M) = true := rows_noHs hoD_noHs M
  have fd := find_fn (f := f) (s := s) k hM hw
  have oh := of_has M w k hw
  have hl := has_lt M w
  have rl := rows_len k.who
  unfold coinC at *
  refine fn_of_vwp Γok Try.func62 (by kernel_rfl) rfl (by simp [Try.ntmps62]) (wpv_ok Γok (by kernel_rfl) _ _ _ ?_); conv => whnf
  refine bindP_intro (load_agg rfl rfl (by rw [bts_length, hw.1])) ?_
  conv => whnf
  try (refine ⟨by kernel_rfl, ?_⟩; conv => whnf)
  refine ⟨_, ret_of_fn G0ok (fd) (by first | rfl | simp only [noHs, noH, nI, bI, Bool.and_self, Bool.and_true, Bool.true_and, nM, bts_noHs]) (by first | rfl | simp only [noHs, noH, nI, bI, Bool.and_self, Bool.and_true, Bool.true_and, nM, bts_noHs]), ?_⟩; (conv => whnf); (try (refine ⟨by kernel_rfl, ?_⟩; conv => whnf))
  refine bool_cases (fun hc => ?_) (fun hc => ?_)
  · have hp := hl hc
    rw [oh.2 hc hp]
    conv => whnf
    try (refine ⟨by kernel_rfl, ?_⟩; conv => whnf)
    refine bindP_intro (if_pos (inB_ok (by omega) (by omega))) ?_; conv => whnf
    refine bindP_intro (load_sub rfl rfl (by rw [rl]; show _ + 4 ≤ _; dsimp only; omega) (rows_amt (i := posM M w) k.who hp (by dsimp only; omega))) ?_
    conv => whnf
    try (refine ⟨by kernel_rfl, ?_⟩; conv => whnf)
    exact ⟨_, rfl, rfl⟩
  · rw [oh.1 hc, show uV 0 = .agg (words [0, 0, 0, 0]) from congrArg VV.agg (uC_lit (by decide))]
    conv => whnf
    try (refine ⟨by kernel_rfl, ?_⟩; conv => whnf)
    exact ⟨_, rfl, rfl⟩
theorem with_fn {f : Bool} {M : List HoD} {s n : Nat} {w : List Nat} (k : HolOk M) (hM : M.length ≤ 100) (hw : WhoOk w) (hn : n < T256) : FnV Try.prog G0 65 [.agg (coinC f M s), .agg (bts w), uV n] (.agg (coinC false (withM M w n) s)) := by
  have nM : noHs (rows HoD.cells M) = true := rows_noHs hoD_noHs M
  have fd := find_fn (f := f) (s := s) k hM hw
  have hl := has_lt M w
  have rl := rows_len k.who
  have pl := pos_le M w
  have we := with_eq M w n
  unfold coinC at *
  refine fn_of_vwp Γok Try.func65 (by kernel_rfl) rfl (by simp [Try.ntmps65]) (wpv_ok Γok (by kernel_rfl) _ _ _ ?_); conv => whnf
  refine bindP_intro (load_agg rfl rfl (by rw [bts_length, hw.1])) ?_
  conv => whnf
  try (refine ⟨by kernel_rfl, ?_⟩; conv => whnf)
  refine ⟨_, ret_of_fn G0ok (fd) (by first | rfl | simp only [noHs, noH, nI, bI, Bool.and_self, Bool.and_true, Bool.true_and, nM, bts_noHs]) (by first | rfl | simp only [noHs, noH, nI, bI, Bool.and_self, Bool.and_true, Bool.true_and, nM, bts_noHs]), ?_⟩; (conv => whnf); (try (refine ⟨by kernel_rfl, ?_⟩; conv => whnf))
  refine .ownAs 0 [] rfl rfl ?_
  conv => whnf
  try (refine ⟨by kernel_rfl, ?_⟩; conv => whnf)
  refine bindP_intro (vpure_slice (vslice_rows (f := HoD.cells) (w := 36) rfl rfl (fun a ha => hoD_len (k.who a ha)) rfl (by rfl) vb_nat (Nat.zero_le _) pl)) ?_
  rw [show (M.drop 0).take (posM M w - 0) = M.take (posM M w) from rfl]
  have tl : (M.take (posM M w)).length = posM M w := by rw [List.length_take]; omega
  have nT := rows_noHs hoD_noHs (M.take (posM M w))
  have tk := rows_len (M := M.take (posM M w)) (fun h hh => k.who h (List.mem_of_mem_take hh))
  rw [tl] at tk ⊢
  conv => whnf
  try (refine ⟨by kernel_rfl, ?_⟩; conv => whnf)
  refine onlyIf_intro (by simp [maxLen, tk]) ?_
  conv => whnf
  try (refine ⟨by kernel_rfl, ?_⟩; conv => whnf)
  refine onlyIf_intro (by simp [maxLen, tk]; omega) ?_
  refine .ownAs (posM M w) (rows HoD.cells (M.take (posM M w))) (by simp) (by simp) ?_
  conv => whnf
  try (refine ⟨by kernel_rfl, ?_⟩; conv => whnf)
  have ez := nez_uC hn
  refine ⟨_, ez, ?_⟩
  conv => whnf
  try (refine ⟨by kernel_rfl, ?_⟩; conv => whnf)
  have wk : ∀ h ∈ withM M w n, WhoOk h.who := (with_ok (n := n) k hw).who
  by_cases h0 : n = 0
  · rw [decide_eq_true h0]
    conv => whnf
    try (refine ⟨by kernel_rfl, ?_⟩; conv => whnf)
    rw [show newM w n = [] from if_pos h0, List.nil_append] at we
    refine bool_cases (fun hc => ?_) (fun hc => ?_)
    · have hp := hl hc
      rw [if_pos hc] at we
      have dk := rows_len (M := M.drop (posM M w + 1)) (fun h hh => k.who h (List.mem_of_mem_drop hh))
      rw [List.length_drop] at dk
      conv => whnf
      try (refine ⟨by kernel_rfl, ?_⟩; conv => whnf)
      rw [ws_i64 (x := (posM M w : Int) + 1) (by omega) (by omega), show (posM M w : Int) + 1 = ((posM M w + 1 : Nat) : Int) from rfl]
      conv => whnf
      try (refine ⟨by kernel_rfl, ?_⟩; conv => whnf)
      refine bindP_intro (vpure_slice (vslice_rows (f := HoD.cells) (w := 36) rfl rfl (fun a ha => hoD_len (k.who a ha)) rfl vb_nat (by rfl) (by omega) (Nat.le_refl _))) ?_
      have eD : (M.drop (posM M w + 1)).take (M.length - (posM M w + 1)) = M.drop (posM M w + 1) := List.take_of_length_le (by rw [List.length_drop]; omega)
      rw [eD]
      conv => whnf
      try (refine ⟨by kernel_rfl, ?_⟩; conv => whnf)
      refine onlyIf_intro (by simp [maxLen, tk, dk]) ?_
      conv => whnf
      try (refine ⟨by kernel_rfl, ?_⟩; conv => whnf)
      refine onlyIf_intro (by simp [maxLen, tk, dk]; omega) ?_
      refine .read (withM M w n).length (rows HoD.cells (withM M w n)) (by rw [we]; simp [tl] <;> omega) (by rw [we, rows_app]) (rows_len wk) (rows_noHs hoD_noHs _) ?_
      conv => whnf
      try (refine ⟨by kernel_rfl, ?_⟩; conv => whnf)
      exact ⟨_, rfl, deepV_noH _ _ (coinC_noHs _ _ _)⟩
    · rw [if_neg (by rw [hc]; decide), Nat.add_zero] at we
      have dk := rows_len (M := M.drop (posM M w)) (fun h hh => k.who h (List.mem_of_mem_drop hh))
      rw [List.length_drop] at dk
      conv => whnf
      try (refine ⟨by kernel_rfl, ?_⟩; conv => whnf)
      refine bindP_intro (vpure_slice (vslice_rows (f := HoD.cells) (w := 36) rfl rfl (fun a ha => hoD_len (k.who a ha)) rfl vb_nat (by rfl) (by omega) (Nat.le_refl _))) ?_
      have eD : (M.drop (posM M w)).take (M.length - (posM M w)) = M.drop (posM M w) := List.take_of_length_le (by rw [List.length_drop]; omega)
      rw [eD]
      conv => whnf
      try (refine ⟨by kernel_rfl, ?_⟩; conv => whnf)
      refine onlyIf_intro (by simp [maxLen, tk, dk]) ?_
      conv => whnf
      try (refine ⟨by kernel_rfl, ?_⟩; conv => whnf)
      refine onlyIf_intro (by simp [maxLen, tk, dk]; omega) ?_
      refine .read (withM M w n).length (rows HoD.cells (withM M w n)) (by rw [we]; simp [tl] <;> omega) (by rw [we, rows_app]) (rows_len wk) (rows_noHs hoD_noHs _) ?_
      conv => whnf
      try (refine ⟨by kernel_rfl, ?_⟩; conv => whnf)
      exact ⟨_, rfl, deepV_noH _ _ (coinC_noHs _ _ _)⟩
  · rw [decide_eq_false h0]
    conv => whnf
    try (refine ⟨by kernel_rfl, ?_⟩; conv => whnf)
    rw [show newM w n = [⟨w, n⟩] from if_neg h0] at we
    refine bindP_intro (load_agg rfl rfl (by rw [bts_length, hw.1])) ?_
    conv => whnf
    try (refine ⟨by kernel_rfl, ?_⟩; conv => whnf)
    refine bindP_intro (vpure_build2 (n := 32) (m := 4) (a := bts w) (b := uC n) rfl rfl rfl rfl rfl rfl rfl (by rw [bts_length, hw.1]) rfl rfl) ?_
    conv => whnf
    try (refine ⟨by kernel_rfl, ?_⟩; conv => whnf)
    have hcl : (bts w ++ uC n).length = 36 := hoD_len (s := ⟨w, n⟩) hw
    refine bindP_intro (vfill_one (n := 36) (cs := bts w ++ uC n) rfl hcl rfl) ?_
    conv => whnf
    try (refine ⟨by kernel_rfl, ?_⟩; conv => whnf)
    refine onlyIf_intro (by rw [hcl]; rfl) ?_
    conv => whnf
    try (refine ⟨by kernel_rfl, ?_⟩; conv => whnf)
    refine .ownAs 1 (bts w ++ uC n) rfl rfl ?_
    conv => whnf
    try (refine ⟨by kernel_rfl, ?_⟩; conv => whnf)
    refine bindP_intro (view_whole rfl hcl.symm) ?_
    conv => whnf
    try (refine ⟨by kernel_rfl, ?_⟩; conv => whnf)
    refine onlyIf_intro (by simp [maxLen, tk, hcl]) ?_
    conv => whnf
    try (refine ⟨by kernel_rfl, ?_⟩; conv => whnf)
    refine onlyIf_intro (by simp [maxLen, tk, hcl]; omega) ?_
    refine .ownAs (posM M w + 1) (rows HoD.cells (M.take (posM M w) ++ [⟨w, n⟩])) rfl (by rw [rows_app, rows_one]; rfl) ?_
    conv => whnf
    try (refine ⟨by kernel_rfl, ?_⟩; conv => whnf)
    have tk2 : (rows HoD.cells (M.take (posM M w) ++ [⟨w, n⟩])).length = (posM M w + 1) * 36 := by rw [rows_app, rows_one, List.length_append, tk, show (HoD.cells ⟨w, n⟩).length = 36 from hcl]; omega
    refine bool_cases (fun hc => ?_) (fun hc => ?_)
    · have hp := hl hc
      rw [if_pos hc] at we
      have dk := rows_len (M := M.drop (posM M w + 1)) (fun h hh => k.who h (List.mem_of_mem_drop hh))
      rw [List.length_drop] at dk
      conv => whnf
      try (refine ⟨by kernel_rfl, ?_⟩; conv => whnf)
      rw [ws_i64 (x := (posM M w : Int) + 1) (by omega) (by omega), show (posM M w : Int) + 1 = ((posM M w + 1 : Nat) : Int) from rfl]
      conv => whnf
      try (refine ⟨by kernel_rfl, ?_⟩; conv => whnf)
      refine bindP_intro (vpure_slice (vslice_rows (f := HoD.cells) (w := 36) rfl rfl (fun a ha => hoD_len (k.who a ha)) rfl vb_nat (by rfl) (by omega) (Nat.le_refl _))) ?_
      have eD : (M.drop (posM M w + 1)).take (M.length - (posM M w + 1)) = M.drop (posM M w + 1) := List.take_of_length_le (by rw [List.length_drop]; omega)
      rw [eD]
      conv => whnf
      try (refine ⟨by kernel_rfl, ?_⟩; conv => whnf)
      refine onlyIf_intro (by simp [maxLen, tk2, dk]) ?_
      conv => whnf
      try (refine ⟨by kernel_rfl, ?_⟩; conv => whnf)
      refine onlyIf_intro (by simp [maxLen, tk2, dk]; omega) ?_
      refine .read (withM M w n).length (rows HoD.cells (withM M w n)) (by rw [we]; simp [tl] <;> omega) (by rw [we, ← List.append_assoc]; simp only [rows_app]) (rows_len wk) (rows_noHs hoD_noHs _) ?_
      conv => whnf
      try (refine ⟨by kernel_rfl, ?_⟩; conv => whnf)
      exact ⟨_, rfl, deepV_noH _ _ (coinC_noHs _ _ _)⟩
    · rw [if_neg (by rw [hc]; decide), Nat.add_zero] at we
      have dk := rows_len (M := M.drop (posM M w)) (fun h hh => k.who h (List.mem_of_mem_drop hh))
      rw [List.length_drop] at dk
      conv => whnf
      try (refine ⟨by kernel_rfl, ?_⟩; conv => whnf)
      refine bindP_intro (vpure_slice (vslice_rows (f := HoD.cells) (w := 36) rfl rfl (fun a ha => hoD_len (k.who a ha)) rfl vb_nat (by rfl) (by omega) (Nat.le_refl _))) ?_
      have eD : (M.drop (posM M w)).take (M.length - (posM M w)) = M.drop (posM M w) := List.take_of_length_le (by rw [List.length_drop]; omega)
      rw [eD]
      conv => whnf
      try (refine ⟨by kernel_rfl, ?_⟩; conv => whnf)
      refine onlyIf_intro (by simp [maxLen, tk2, dk]) ?_
      conv => whnf
      try (refine ⟨by kernel_rfl, ?_⟩; conv => whnf)
      refine onlyIf_intro (by simp [maxLen, tk2, dk]; omega) ?_
      refine .read (withM M w n).length (rows HoD.cells (withM M w n)) (by rw [we]; simp [tl] <;> omega) (by rw [we, ← List.append_assoc]; simp only [rows_app]) (rows_len wk) (rows_noHs hoD_noHs _) ?_
      conv => whnf
      try (refine ⟨by kernel_rfl, ?_⟩; conv => whnf)
      exact ⟨_, rfl, deepV_noH _ _ (coinC_noHs _ _ _)⟩
end Go.Proofs.Ytlecdiopokalgaa
namespace Go.Proofs.Ytlecdiopokalgaa
set_option linter.unusedVariables false
set_option linter.unusedSimpArgs false
set_option linter.unusedSectionVars false
open Go.ChangeShapes Go.WideShapes Go.ChangeAt Go.RowKit Go.Joins
theorem with_len_burn : ∀ (M : List HoD) (w : List Nat) (n : Nat), HolOk M → WhoOk w → n ≤ ofM M w → (withM M w n).length ≤ M.length
  | [], w, n, _, _, h => by
    have h : n ≤ 0 := h
    have h0 : n = 0 := by omega
    show (newM w n).length ≤ 0
    rw [show newM w n = [] from if_pos h0]
    exact Nat.le_refl _
  | h :: t, w, n, k, hw, hn => by
    have hh := k.head
    unfold withM
    by_cases a : cmpB h.who w < 0
    · rw [if_pos a]
      have e : ofM (h :: t) w = ofM t w := if_neg (fun e => by rw [e, cmpB_self] at a; omega)
      have := with_len_burn t w n k.tail hw (e ▸ hn)
      simp only [List.length_cons]; omega
    · rw [if_neg a]
      by_cases b : h.who = w
      · rw [if_pos b]
        have := new_len w n
        simp only [List.length_append, List.length_cons]; omega
      · rw [if_neg b]
        have z := of_above (h :: t) w hw (above_trans k hw (lt_of_not hw hh.1 a b))
        have h0 : n = 0 := by omega
        rw [show newM w n = [] from if_pos h0]
        exact Nat.le_refl _
/-- One of the six. -/
def whoB (i : Nat) : List Nat := 1 :: (List.replicate 30 0 ++ [i])
theorem whoB_ok {i : Nat} (h : i < 6) : WhoOk (whoB i) := by
  refine ⟨rfl, fun x hx => ?_⟩
  rcases List.mem_cons.1 hx with e | e
  · omega
  · rcases List.mem_append.1 e with g | g
    · rw [(List.mem_replicate.1 g).2]; decide
    · rw [List.mem_singleton.1 g]; omega
theorem whoB_inj {i j : Nat} : whoB i = whoB j ↔ i = j := by
  constructor
  · intro h
    have h := (List.cons.inj h).2
    have := (List.append_inj' h rfl).2
    simpa using this
  · intro h; rw [h]
def six (M : List HoD) : Nat := ofM M (whoB 0) + ofM M (whoB 1) + ofM M (whoB 2) + ofM M (whoB 3) + ofM M (whoB 4) + ofM M (whoB 5)
theorem six_with {M : List HoD} (k : HolOk M) {j n : Nat} (hj : j < 6) : six (withM M (whoB j) n) + ofM M (whoB j) = six M + n := by
  have hw := whoB_ok hj
  unfold six
  simp only [of_with M _ _ n k hw, whoB_inj]
  have : j = 0 ∨ j = 1 ∨ j = 2 ∨ j = 3 ∨ j = 4 ∨ j = 5 := by omega
  rcases this with rfl | rfl | rfl | rfl | rfl | rfl <;> simp <;> omega
/-- A coin that came of i steps. -/
structure MinOk (i : Nat) (M : List HoD) : Prop where
  hol : HolOk M
  sum : sumM M ≤ 100 * i
  len : M.length ≤ i
  six : six M = sumM M
theorem min_nil : MinOk 0 [] := ⟨hol_nil, Nat.le_refl _, Nat.le_refl _, rfl⟩
def mintS (M : List HoD) (w : List Nat) (n : Nat) : List HoD := withM M w (ofM M w + n)
def burnS (M : List HoD) (w : List Nat) (n : Nat) : List HoD := withM M w (ofM M w - n)
def moveS (M : List HoD) (w v : List Nat) (n : Nat) : List HoD := mintS (burnS M w n) v n
theorem mint_sum {M : List HoD} {w : List Nat} {n : Nat} (k : HolOk M) (hw : WhoOk w) : sumM (mintS M w n) = sumM M + n := by
  have := sum_with M w (ofM M w + n) k hw
  unfold mintS
  omega
theorem burn_sum {M : List HoD} {w : List Nat} {n : Nat} (k : HolOk M) (hw : WhoOk w) (hn : n ≤ ofM M w) : sumM (burnS M w n) + n = sumM M := by
  have := sum_with M w (ofM M w - n) k hw
  unfold burnS
  omega
theorem mint_min {i : Nat} {M : List HoD} {j n : Nat} (k : MinOk i M) (hj : j < 6) (hn : n ≤ 100) : MinOk (i + 1) (mintS M (whoB j) n) := by
  have hw := whoB_ok hj
  refine ⟨with_ok k.hol hw, ?_, ?_, ?_⟩
  · rw [mint_sum k.hol hw]; have := k.sum; omega
  · exact Nat.le_trans (with_len _ _ _) (Nat.succ_le_succ k.len)
  · rw [mint_sum k.hol hw, ← k.six]
    have := six_with (n := ofM M (whoB j) + n) k.hol hj
    unfold mintS
    omega
theorem burn_min {i : Nat} {M : List HoD} {j n : Nat} (k : MinOk i M) (hj : j < 6) (hn : n ≤ ofM M (whoB j)) : MinOk i (burnS M (whoB j) n) := by
  have hw := whoB_ok hj
  have bs := burn_sum k.hol hw hn
  refine ⟨with_ok k.hol hw, ?_, ?_, ?_⟩
  · have := k.sum; omega
  · exact Nat.le_trans (with_len_burn _ _ _ k.hol hw (Nat.sub_le _ _)) k.len
  · have := k.six
    have := six_with (n := ofM M (whoB j) - n) k.hol hj
    unfold burnS at bs ⊢
    omega
theorem move_min {i : Nat} {M : List HoD} {j m n : Nat} (k : MinOk i M) (hj : j < 6) (hm : m < 6) (hn : n ≤ ofM M (whoB j)) (h100 : n ≤ 100) : MinOk (i + 1) (moveS M (whoB j) (whoB m) n) := mint_min (burn_min k hj hn) hm h100
theorem MinOk.step {i : Nat} {M : List HoD} (k : MinOk i M) : MinOk (i + 1) M := ⟨k.hol, by have := k.sum; omega, by have := k.len; omega, k.six⟩
def whoR (x : Int) : Nat := (x % 6).toNat
theorem whoR_lt (x : Int) : whoR x < 6 := by
  have := Int.emod_lt_of_pos x (show (0 : Int) < 6 by decide)
  have := Int.emod_nonneg x (show (6 : Int) ≠ 0 by decide)
  unfold whoR
  omega
def amtR (r : RawD) : Nat := (r.b % 100).toNat
theorem amtR_lt (r : RawD) : amtR r < 100 := by
  have := Int.emod_lt_of_pos r.b (show (0 : Int) < 100 by decide)
  have := Int.emod_nonneg r.b (show (100 : Int) ≠ 0 by decide)
  unfold amtR
  omega
def minG (M : List HoD) (r : RawD) : List HoD :=
  if r.k % 4 = 0 then (if amtR r ≤ ofM M (whoB (whoR r.a)) then burnS M (whoB (whoR r.a)) (amtR r) else M)
  else if r.k % 4 = 1 then (if amtR r ≤ ofM M (whoB (whoR r.a)) then moveS M (whoB (whoR r.a)) (whoB (whoR (r.a.tdiv 7))) (amtR r) else M)
  else mintS M (whoB (whoR r.a)) (amtR r)
theorem minG_ok {i : Nat} {M : List HoD} (k : MinOk i M) (r : RawD) : MinOk (i + 1) (minG M r) := by
  have h1 := whoR_lt r.a
  have h2 := whoR_lt (r.a.tdiv 7)
  have h3 := amtR_lt r
  unfold minG
  split
  · split
    · rename_i h; exact (burn_min k h1 h).step
    · exact k.step
  · split
    · split
      · rename_i h; exact move_min k h1 h2 h (by omega)
      · exact k.step
    · exact mint_min k h1 (by omega)
def minF (l : List RawD) : Nat → List HoD
  | 0 => []
  | i + 1 => match l[i]? with
    | some r => minG (minF l i) r
    | none => minF l i
theorem minF_next {l : List RawD} {i : Nat} (h : i < l.length) : minF l (i + 1) = minG (minF l i) l[i] := by
  rw [minF, List.getElem?_eq_getElem h]
theorem minF_ok (l : List RawD) : ∀ i, i ≤ l.length → MinOk i (minF l i)
  | 0, _ => min_nil
  | i + 1, h => by
    rw [minF_next (show i < l.length by omega)]
    exact minG_ok (minF_ok l i (by omega)) _
end Go.Proofs.Ytlecdiopokalgaa
namespace Go.Proofs.Ytlecdiopokalgaa
set_option linter.unusedVariables false
set_option linter.unusedSimpArgs false
set_option linter.unusedSectionVars false
open Go.ChangeShapes Go.WideShapes Go.ChangeAt Go.RowKit Go.Joins
set_option maxRecDepth 10000
theorem sum_app : ∀ (A B : List HoD), sumM (A ++ B) = sumM A + sumM B
  | [], B => (Nat.zero_add _).symm
  | h :: A, B => by
    show h.amt + sumM (A ++ B) = h.amt + sumM A + sumM B
    rw [sum_app A B, Nat.add_assoc]
theorem sum_take {M : List HoD} {i : Nat} (hi : i < M.length) : sumM (M.take (i + 1)) = sumM (M.take i) + M[i].amt := by
  rw [List.take_add_one, List.getElem?_eq_getElem hi, sum_app]
  rfl
theorem sum_take_le (M : List HoD) (i : Nat) : sumM (M.take i) ≤ sumM M := by
  have := sum_app (M.take i) (M.drop i)
  rw [List.take_append_drop] at this
  omega
theorem hoD_part {i : Nat} {M : List HoD} (k : ∀ h ∈ M, WhoOk h.who) (hi : i < M.length) {j : Nat} (hj : j = i * 36) : ((rows HoD.cells M).drop j).take 32 = bts M[i].who := by
  have e := row_at (f := HoD.cells) (w := 36) (fun a ha => hoD_len (k a ha)) hi
  have e2 := hoD_who (k _ (List.getElem_mem hi))
  rw [List.drop_zero] at e2
  rw [← e2, ← e, List.take_take, hj]
  rfl
theorem vslice_dp {t e : TypeId} {N s o : Nat} {es ds : List VV} (ht : arrOf Γ t = some (N, e, s)) (hl : o + N * s ≤ es.length) (hd : (es.drop o).take (N * s) = ds) : vslice Γ t (.dp es o) none none none = some (.ds false N ds) := by
  unfold vslice
  simp only [ht, vb]
  rw [if_pos ⟨Nat.zero_le _, Nat.le_refl _, hl⟩, Nat.sub_zero, Nat.zero_mul, Nat.add_zero, hd]
theorem ccheck_fn {f : Bool} {M : List HoD} (k : HolOk M) (hM : M.length ≤ 40) (hs : sumM M < T256) : FnV Try.prog G0 34 [.agg (coinC f M (sumM M))] (nI .i64 0) := by
  have nM : noHs (rows HoD.cells M) = true := rows_noHs hoD_noHs M
  have rl := rows_len k.who
  have nC := coinC_noHs f M (sumM M)
  unfold coinC at *
  refine fn_of_vwp Γok Try.func34 (by kernel_rfl) rfl (by simp [Try.ntmps34]) (wpv_ok Γok (by kernel_rfl) _ _ _ ?_); conv => whnf
  rw [decide_eq_false (show ¬ ((M.length : Nat) : Int) > 40 by omega)]
  conv => whnf
  try (refine ⟨by kernel_rfl, ?_⟩; conv => whnf)
  have nCu : ∀ n, noHs (uC n) = true := uC_noHs
  refine vloop_invK G0ok [(0, some 0), (1, some 1)] 2 (X := Nat) (fun i => [(15, nI .i64 i), (14, nI .i64 M.length), (13, .ds f M.length (rows HoD.cells M)), (3, .ptr 1 0), (2, nI .i64 0), (1, .ptr 0 0)]) (fun i => [(0, some [nI .u64 (lim (sumM M) 0), nI .u64 (lim (sumM M) 1), nI .u64 (lim (sumM M) 2), nI .u64 (lim (sumM M) 3), .ds f M.length (rows HoD.cells M)]), (1, some (uC (sumM (M.take i))))]) (fun i => i ≤ M.length) (fun i => M.length - i) 0 rfl
    ⟨⟨_, rfl, conv_nI (rfl)⟩, ⟨_, rfl, conv_nI (rfl)⟩, ⟨_, rfl, conv_eq rfl (nM)⟩, ⟨_, rfl, .ptr rfl⟩, ⟨_, rfl, conv_nI (rfl)⟩, ⟨_, rfl, .ptr rfl⟩, trivial⟩ ⟨.inr ⟨_, _, rfl, rfl, .same (nC)⟩, .inr ⟨_, _, rfl, rfl, convs_eq ((uC_lit (n := 0) (by decide)).symm) (rfl)⟩, trivial⟩ (Nat.zero_le _) ?_
  intro i hi
  try dsimp only at hi ⊢
  refine wpv_ok Γok (by kernel_rfl) _ _ _ ?_; conv => whnf
  refine bool_cases (fun hc => ?_) (fun hc => ?_)
  · have hc := of_decide_eq_true hc
    have hc : i < M.length := by omega
    have kw := k.who _ (List.getElem_mem hc)
    have kp := k.pos _ (List.getElem_mem hc)
    have st := sum_take hc
    have sl := sum_take_le M (i + 1)
    have srt : ∀ j (hj : j < M.length), j + 1 = i → cmpB M[j].who M[i].who < 0 := fun j hj e => List.pairwise_iff_getElem.1 k.srt j i hj hc (by omega)
    conv => whnf
    try (refine ⟨by kernel_rfl, ?_⟩; conv => whnf)
    refine bindP_intro (if_pos (inB_ok (by omega) (by omega))) ?_; conv => whnf
    refine bindP_intro (row_load (i := i) (w := 36) rfl rfl rfl (fun a ha => hoD_len (k.who a ha)) (by dsimp only; omega) hc) ?_
    refine gen_ex M[i] fun h eh => ?_
    rw [← eh] at kw kp st srt ⊢
    clear eh
    have hl := hoD_len kw
    have nh := hoD_noHs h
    conv => whnf
    try (refine ⟨by kernel_rfl, ?_⟩; conv => whnf)
    refine onlyIf_intro (by simp [words_length, *, hl]) ?_; rw [splice_all (by simp [words_length, *, hl])]; conv => whnf
    conv => whnf
    try (refine ⟨by kernel_rfl, ?_⟩; conv => whnf)
    refine bindP_intro (load_sub (ds := uC h.amt) rfl rfl (by rw [hl]; decide) (hoD_amt kw)) ?_
    conv => whnf
    try (refine ⟨by kernel_rfl, ?_⟩; conv => whnf)
    refine ⟨_, eqz_uC (show h.amt < T256 by omega), ?_⟩
    rw [decide_eq_false (show ¬ h.amt = 0 by omega)]
    conv => whnf
    try (refine ⟨by kernel_rfl, ?_⟩; conv => whnf)
    have ad := add_fn (a := sumM (M.take i)) (b := h.amt) (by omega) (by omega)
    rw [addS_def, addO_def, Nat.mod_eq_of_lt (show sumM (M.take i) + h.amt < T256 by omega), decide_eq_false (show ¬ T256 ≤ sumM (M.take i) + h.amt by omega)] at ad
    by_cases i0 : 0 < i
    · rw [decide_eq_true (show (i : Int) > 0 by omega)]
      obtain ⟨j, rfl⟩ : ∃ j, i = j + 1 := ⟨i - 1, by omega⟩
      have hj : j < M.length := by omega
      have lt := srt j hj rfl
      have jw := k.who _ (List.getElem_mem hj)
      conv => whnf
      try (refine ⟨by kernel_rfl, ?_⟩; conv => whnf)
      rw [ws_i64 (x := ((j + 1 : Nat) : Int) - 1) (by omega) (by omega)]
      conv => whnf
      try (refine ⟨by kernel_rfl, ?_⟩; conv => whnf)
      refine bindP_intro (if_pos (inB_ok (by omega) (by omega))) ?_; conv => whnf
      refine bindP_intro (vpure_slice (vslice_dp (ds := bts (M[j]'hj).who) rfl (by rw [rl]; dsimp only; omega) (by exact hoD_part k.who hj (by dsimp only; omega)))) ?_
      conv => whnf
      try (refine ⟨by kernel_rfl, ?_⟩; conv => whnf)
      refine onlyIf_intro (by rw [hl]; rfl) ?_
      conv => whnf
      try (refine ⟨by kernel_rfl, ?_⟩; conv => whnf)
      have bc := bcmp_fn (fa := false) (fb := false) (A := (M[j]'hj).who) (B := h.who) (by rw [kw.1, jw.1]) (by rw [jw.1]; decide) jw.2 kw.2
      rw [kw.1, jw.1] at bc
      refine ⟨_, ret_own [2] G0ok (bc) (mapO_cons (deepV_noH _ _ (bts_noHs _)) (mapO_cons (deep_part rfl (by rw [hl]; decide) (show (h.cells.drop 0).take (32 * 1) = bts h.who from hoD_who kw) (bts_noHs _)) mapO_nil)) rfl, ?_⟩; (conv => whnf); (try (refine ⟨by kernel_rfl, ?_⟩; conv => whnf))
      rw [decide_eq_false (show ¬ cmpB (M[j]'hj).who h.who ≥ 0 by omega)]
      conv => whnf
      try (refine ⟨by kernel_rfl, ?_⟩; conv => whnf)
      refine bindP_intro (load_sub (ds := uC h.amt) rfl rfl (by rw [hl]; decide) (hoD_amt kw)) ?_
      conv => whnf
      try (refine ⟨by kernel_rfl, ?_⟩; conv => whnf)
      refine ⟨_, ret_of_fn G0ok (ad) (by first | rfl | simp only [noHs, noH, nI, bI, Bool.and_self, Bool.and_true, Bool.true_and, ]) (by first | rfl | simp only [noHs, noH, nI, bI, Bool.and_self, Bool.and_true, Bool.true_and, ]), ?_⟩; (conv => whnf); (try (refine ⟨by kernel_rfl, ?_⟩; conv => whnf))
      refine next_round (y := j + 1) G0ok (j + 1 + 1) [(0, some 0), (1, some 1)] rfl ⟨⟨_, rfl, conv_nI (ws_i64 (by omega) (by omega))⟩, ⟨_, rfl, conv_nI (rfl)⟩, ⟨_, rfl, conv_eq rfl (nM)⟩, ⟨_, rfl, .ptr rfl⟩, ⟨_, rfl, conv_nI (rfl)⟩, ⟨_, rfl, .ptr rfl⟩, trivial⟩ ⟨.inr ⟨_, _, rfl, rfl, .same (nC)⟩, .inr ⟨_, _, rfl, rfl, convs_eq (by rw [st]; rfl) rfl⟩, trivial⟩ (by omega) (by omega)
    · rw [decide_eq_false (show ¬ (i : Int) > 0 by omega)]
      conv => whnf
      try (refine ⟨by kernel_rfl, ?_⟩; conv => whnf)
      refine bindP_intro (load_sub (ds := uC h.amt) rfl rfl (by rw [hl]; decide) (hoD_amt kw)) ?_
      conv => whnf
      try (refine ⟨by kernel_rfl, ?_⟩; conv => whnf)
      refine ⟨_, ret_of_fn G0ok (ad) (by first | rfl | simp only [noHs, noH, nI, bI, Bool.and_self, Bool.and_true, Bool.true_and, ]) (by first | rfl | simp only [noHs, noH, nI, bI, Bool.and_self, Bool.and_true, Bool.true_and, ]), ?_⟩; (conv => whnf); (try (refine ⟨by kernel_rfl, ?_⟩; conv => whnf))
      refine next_round (y := i) G0ok (i + 1) [(0, some 0), (1, some 1)] rfl ⟨⟨_, rfl, conv_nI (ws_i64 (by omega) (by omega))⟩, ⟨_, rfl, conv_nI (rfl)⟩, ⟨_, rfl, conv_eq rfl (nM)⟩, ⟨_, rfl, .ptr rfl⟩, ⟨_, rfl, conv_nI (rfl)⟩, ⟨_, rfl, .ptr rfl⟩, trivial⟩ ⟨.inr ⟨_, _, rfl, rfl, .same (nC)⟩, .inr ⟨_, _, rfl, rfl, convs_eq (by rw [st]; rfl) rfl⟩, trivial⟩ (by omega) (by omega)
  · have hc := of_decide_eq_false hc
    have e : i = M.length := by omega
    subst e
    rw [List.take_length]
    conv => whnf
    try (refine ⟨by kernel_rfl, ?_⟩; conv => whnf)
    refine ⟨_, ne_uC (a := sumM M) (b := sumM M) hs hs, ?_⟩
    rw [decide_eq_true (rfl : sumM M = sumM M)]
    conv => whnf
    try (refine ⟨by kernel_rfl, ?_⟩; conv => whnf)
    exact ⟨_, rfl, rfl⟩
theorem cOf_fn {f : Bool} {M : List HoD} {w : List Nat} (k : HolOk M) (hM : M.length ≤ 40) (hs : sumM M < T256) (hw : WhoOk w) : FnV Try.prog G0 30 [.agg (coinC f M (sumM M)), .agg (bts w)] (.tup [uV (ofM M w), nI .i64 0]) := by
  have nM : noHs (rows HoD.cells M) = true := rows_noHs hoD_noHs M
  have ck := ccheck_fn (f := f) k hM hs
  have oc := of_fn (f := f) (s := sumM M) k (by omega) hw
  unfold coinC at *
  refine fn_of_vwp Γok Try.func30 (by kernel_rfl) rfl (by simp [Try.ntmps30]) (wpv_ok Γok (by kernel_rfl) _ _ _ ?_); conv => whnf
  refine ⟨_, ret_of_fn G0ok (ck) (by first | rfl | simp only [noHs, noH, nI, bI, Bool.and_self, Bool.and_true, Bool.true_and, nM]) (by first | rfl | simp only [noHs, noH, nI, bI, Bool.and_self, Bool.and_true, Bool.true_and, nM]), ?_⟩; (conv => whnf); (try (refine ⟨by kernel_rfl, ?_⟩; conv => whnf))
  refine bindP_intro (load_agg rfl rfl (by rw [bts_length, hw.1])) ?_
  conv => whnf
  try (refine ⟨by kernel_rfl, ?_⟩; conv => whnf)
  refine ⟨_, ret_of_fn G0ok (oc) (by first | rfl | simp only [noHs, noH, nI, bI, Bool.and_self, Bool.and_true, Bool.true_and, nM, bts_noHs]) (by first | rfl | simp only [noHs, noH, nI, bI, Bool.and_self, Bool.and_true, Bool.true_and, nM, bts_noHs]), ?_⟩; (conv => whnf); (try (refine ⟨by kernel_rfl, ?_⟩; conv => whnf))
  exact ⟨_, rfl, rfl⟩
theorem zero_coin : (VV.agg (coinC true [] 0)) = .agg [nI .u64 0, nI .u64 0, nI .u64 0, nI .u64 0, .ds true 0 []] := by
  have l0 : ∀ i, lim 0 i = 0 := fun i => by rw [lim_def, Nat.zero_div]; exact Nat.zero_mod _
  unfold coinC
  simp only [l0]
  rfl
theorem cended_fn {f : Bool} {M : List HoD} {s : Nat} (hM : M.length ≤ 40) : FnV Try.prog G0 66 [.agg (coinC f M s)] (.tup [.agg (coinC f M s), nI .i64 0]) := by
  have nM : noHs (rows HoD.cells M) = true := rows_noHs hoD_noHs M
  unfold coinC at *
  refine fn_of_vwp Γok Try.func66 (by kernel_rfl) rfl (by simp [Try.ntmps66]) (wpv_ok Γok (by kernel_rfl) _ _ _ ?_); conv => whnf
  rw [decide_eq_false (show ¬ ((M.length : Nat) : Int) > 40 by omega)]
  conv => whnf
  try (refine ⟨by kernel_rfl, ?_⟩; conv => whnf)
  exact ⟨_, rfl, deepV_noH _ _ (by simp only [noHs, noH, nI, nM, Bool.and_self])⟩
theorem mint_fn {f : Bool} {M : List HoD} {w : List Nat} {n : Nat} (k : HolOk M) (hM : M.length < 40) (hs : sumM M + n < T256) (hw : WhoOk w) : FnV Try.prog G0 36 [.agg (coinC f M (sumM M)), .agg (bts w), uV n] (.tup [.agg (coinC false (mintS M w n) (sumM (mintS M w n))), nI .i64 0]) := by
  have nM : noHs (rows HoD.cells M) = true := rows_noHs hoD_noHs M
  have ck := ccheck_fn (f := f) k (by omega) (by omega)
  have oc := of_fn (f := f) (s := sumM M) k (by omega) hw
  have ad := add_fn (a := sumM M) (b := n) (by omega) (by omega)
  have ole := of_le M w
  have ad2 := add_fn (a := ofM M w) (b := n) (by omega) (by omega)
  rw [addS_def, addO_def, Nat.mod_eq_of_lt hs, decide_eq_false (show ¬ T256 ≤ sumM M + n by omega)] at ad
  rw [addS_def, addO_def, Nat.mod_eq_of_lt (show ofM M w + n < T256 by omega)] at ad2
  have wf := with_fn (f := f) (s := sumM M) (n := ofM M w + n) k (by omega) hw (by omega)
  have ms := mint_sum (n := n) k hw
  have wl := with_len M w (ofM M w + n)
  rw [ms]
  unfold mintS
  have nN : noHs (rows HoD.cells (withM M w (ofM M w + n))) = true := rows_noHs hoD_noHs _
  refine gen_ex (withM M w (ofM M w + n)) fun N eN => ?_
  rw [← eN] at wf wl nN ⊢
  unfold coinC uV at *
  refine fn_of_vwp Γok Try.func36 (by kernel_rfl) rfl (by simp [Try.ntmps36]) (wpv_ok Γok (by kernel_rfl) _ _ _ ?_); conv => whnf
  refine ⟨_, ret_of_fn G0ok (ck) (by first | rfl | simp only [noHs, noH, nI, bI, Bool.and_self, Bool.and_true, Bool.true_and, nM]) (by first | rfl | simp only [noHs, noH, nI, bI, Bool.and_self, Bool.and_true, Bool.true_and, nM]), ?_⟩; (conv => whnf); (try (refine ⟨by kernel_rfl, ?_⟩; conv => whnf))
  refine ⟨_, ret_of_fn G0ok (ad) (by first | rfl | simp only [noHs, noH, nI, bI, Bool.and_self, Bool.and_true, Bool.true_and, ]) (by first | rfl | simp only [noHs, noH, nI, bI, Bool.and_self, Bool.and_true, Bool.true_and, ]), ?_⟩; (conv => whnf); (try (refine ⟨by kernel_rfl, ?_⟩; conv => whnf))
  refine bindP_intro (load_agg rfl rfl (by rw [bts_length, hw.1])) ?_
  conv => whnf
  try (refine ⟨by kernel_rfl, ?_⟩; conv => whnf)
  refine ⟨_, ret_of_fn G0ok (oc) (by first | rfl | simp only [noHs, noH, nI, bI, Bool.and_self, Bool.and_true, Bool.true_and, nM, bts_noHs]) (by first | rfl | simp only [noHs, noH, nI, bI, Bool.and_self, Bool.and_true, Bool.true_and, nM, bts_noHs]), ?_⟩; (conv => whnf); (try (refine ⟨by kernel_rfl, ?_⟩; conv => whnf))
  refine ⟨_, ret_of_fn G0ok (ad2) (by first | rfl | simp only [noHs, noH, nI, bI, Bool.and_self, Bool.and_true, Bool.true_and, ]) (by first | rfl | simp only [noHs, noH, nI, bI, Bool.and_self, Bool.and_true, Bool.true_and, ]), ?_⟩; (conv => whnf); (try (refine ⟨by kernel_rfl, ?_⟩; conv => whnf))
  refine bindP_intro (load_agg rfl rfl (by rw [bts_length, hw.1])) ?_
  conv => whnf
  try (refine ⟨by kernel_rfl, ?_⟩; conv => whnf)
  refine ⟨_, ret_of_fn G0ok (wf) (by first | rfl | simp only [noHs, noH, nI, bI, Bool.and_self, Bool.and_true, Bool.true_and, nM, nN, bts_noHs, words_noHs]) (by first | rfl | simp only [noHs, noH, nI, bI, Bool.and_self, Bool.and_true, Bool.true_and, nM, nN, bts_noHs, words_noHs]), ?_⟩; (conv => whnf); (try (refine ⟨by kernel_rfl, ?_⟩; conv => whnf))
  have ce := cended_fn (f := false) (M := N) (s := sumM M + n) (by omega)
  unfold coinC at ce
  refine ⟨_, ret_of_fn G0ok (ce) (by first | rfl | simp only [noHs, noH, nI, bI, Bool.and_self, Bool.and_true, Bool.true_and, nN]) (by first | rfl | simp only [noHs, noH, nI, bI, Bool.and_self, Bool.and_true, Bool.true_and, nN]), ?_⟩; (conv => whnf); (try (refine ⟨by kernel_rfl, ?_⟩; conv => whnf))
  exact ⟨_, rfl, deepV_noH _ _ (by simp only [noHs, noH, nI, nN, Bool.and_self])⟩
theorem mint_over {f : Bool} {M : List HoD} {w : List Nat} {n : Nat} (k : HolOk M) (hM : M.length ≤ 40) (hs : sumM M < T256) (hn : n < T256) (ho : T256 ≤ sumM M + n) : FnV Try.prog G0 36 [.agg (coinC f M (sumM M)), .agg (bts w), uV n] (.tup [.agg (coinC true [] 0), nI .i64 13]) := by
  have nM : noHs (rows HoD.cells M) = true := rows_noHs hoD_noHs M
  have ck := ccheck_fn (f := f) k (by omega) (by omega)
  have ad := add_fn (a := sumM M) (b := n) (by omega) (by omega)
  rw [addS_def, addO_def, decide_eq_true ho] at ad
  rw [zero_coin]
  unfold coinC uV at *
  refine fn_of_vwp Γok Try.func36 (by kernel_rfl) rfl (by simp [Try.ntmps36]) (wpv_ok Γok (by kernel_rfl) _ _ _ ?_); conv => whnf
  refine ⟨_, ret_of_fn G0ok (ck) (by first | rfl | simp only [noHs, noH, nI, bI, Bool.and_self, Bool.and_true, Bool.true_and, nM]) (by first | rfl | simp only [noHs, noH, nI, bI, Bool.and_self, Bool.and_true, Bool.true_and, nM]), ?_⟩; (conv => whnf); (try (refine ⟨by kernel_rfl, ?_⟩; conv => whnf))
  refine ⟨_, ret_of_fn G0ok (ad) (by first | rfl | simp only [noHs, noH, nI, bI, Bool.and_self, Bool.and_true, Bool.true_and, ]) (by first | rfl | simp only [noHs, noH, nI, bI, Bool.and_self, Bool.and_true, Bool.true_and, ]), ?_⟩; (conv => whnf); (try (refine ⟨by kernel_rfl, ?_⟩; conv => whnf))
  exact ⟨_, rfl, rfl⟩
theorem burn_fn {f : Bool} {M : List HoD} {w : List Nat} {n : Nat} (k : HolOk M) (hM : M.length ≤ 40) (hs : sumM M < T256) (hw : WhoOk w) (hn : n ≤ ofM M w) : FnV Try.prog G0 37 [.agg (coinC f M (sumM M)), .agg (bts w), uV n] (.tup [.agg (coinC false (burnS M w n) (sumM (burnS M w n))), nI .i64 0]) := by
  have nM : noHs (rows HoD.cells M) = true := rows_noHs hoD_noHs M
  have ck := ccheck_fn (f := f) k (by omega) (by omega)
  have oc := of_fn (f := f) (s := sumM M) k (by omega) hw
  have ole := of_le M w
  have sb := sub_fn (a := ofM M w) (b := n) (by omega) (by omega)
  have sb2 := sub_fn (a := sumM M) (b := n) (by omega) (by omega)
  have bs := burn_sum (n := n) k hw hn
  rw [subS_def, subO_def, show ofM M w + T256 - n = (ofM M w - n) + T256 by omega, Nat.add_mod_right, Nat.mod_eq_of_lt (show ofM M w - n < T256 by omega), decide_eq_false (show ¬ ofM M w < n by omega)] at sb
  rw [subS_def, subO_def, show sumM M + T256 - n = (sumM M - n) + T256 by omega, Nat.add_mod_right, Nat.mod_eq_of_lt (show sumM M - n < T256 by omega), show sumM M - n = sumM (burnS M w n) by omega] at sb2
  have wf := with_fn (f := f) (s := sumM M) (n := ofM M w - n) k (by omega) hw (by omega)
  have e : burnS M w n = withM M w (ofM M w - n) := rfl
  rw [← e] at wf
  have nN : noHs (rows HoD.cells (burnS M w n)) = true := rows_noHs hoD_noHs _
  refine gen_ex (burnS M w n) fun N eN => ?_
  rw [← eN] at wf nN sb2 ⊢
  unfold coinC uV at *
  refine fn_of_vwp Γok Try.func37 (by kernel_rfl) rfl (by simp [Try.ntmps37]) (wpv_ok Γok (by kernel_rfl) _ _ _ ?_); conv => whnf
  refine ⟨_, ret_of_fn G0ok (ck) (by first | rfl | simp only [noHs, noH, nI, bI, Bool.and_self, Bool.and_true, Bool.true_and, nM]) (by first | rfl | simp only [noHs, noH, nI, bI, Bool.and_self, Bool.and_true, Bool.true_and, nM]), ?_⟩; (conv => whnf); (try (refine ⟨by kernel_rfl, ?_⟩; conv => whnf))
  refine bindP_intro (load_agg rfl rfl (by rw [bts_length, hw.1])) ?_
  conv => whnf
  try (refine ⟨by kernel_rfl, ?_⟩; conv => whnf)
  refine ⟨_, ret_of_fn G0ok (oc) (by first | rfl | simp only [noHs, noH, nI, bI, Bool.and_self, Bool.and_true, Bool.true_and, nM, bts_noHs]) (by first | rfl | simp only [noHs, noH, nI, bI, Bool.and_self, Bool.and_true, Bool.true_and, nM, bts_noHs]), ?_⟩; (conv => whnf); (try (refine ⟨by kernel_rfl, ?_⟩; conv => whnf))
  refine ⟨_, ret_of_fn G0ok (sb) (by first | rfl | simp only [noHs, noH, nI, bI, Bool.and_self, Bool.and_true, Bool.true_and, ]) (by first | rfl | simp only [noHs, noH, nI, bI, Bool.and_self, Bool.and_true, Bool.true_and, ]), ?_⟩; (conv => whnf); (try (refine ⟨by kernel_rfl, ?_⟩; conv => whnf))
  refine bindP_intro (load_agg rfl rfl (by rw [bts_length, hw.1])) ?_
  conv => whnf
  try (refine ⟨by kernel_rfl, ?_⟩; conv => whnf)
  refine ⟨_, ret_of_fn G0ok (wf) (by first | rfl | simp only [noHs, noH, nI, bI, Bool.and_self, Bool.and_true, Bool.true_and, nM, nN, bts_noHs, words_noHs]) (by first | rfl | simp only [noHs, noH, nI, bI, Bool.and_self, Bool.and_true, Bool.true_and, nM, nN, bts_noHs, words_noHs]), ?_⟩; (conv => whnf); (try (refine ⟨by kernel_rfl, ?_⟩; conv => whnf))
  refine ⟨_, ret_of_fn G0ok (sb2) (by first | rfl | simp only [noHs, noH, nI, bI, Bool.and_self, Bool.and_true, Bool.true_and, ]) (by first | rfl | simp only [noHs, noH, nI, bI, Bool.and_self, Bool.and_true, Bool.true_and, ]), ?_⟩; (conv => whnf); (try (refine ⟨by kernel_rfl, ?_⟩; conv => whnf))
  exact ⟨_, rfl, deepV_noH _ _ (show noHs [VV.agg (coinC false N (sumM N)), nI .i64 0] = true from by simp only [noHs, noH, nI, coinC_noHs, Bool.and_self])⟩
theorem burn_over {f : Bool} {M : List HoD} {w : List Nat} {n : Nat} (k : HolOk M) (hM : M.length ≤ 40) (hs : sumM M < T256) (hw : WhoOk w) (hn : n < T256) (ho : ofM M w < n) : FnV Try.prog G0 37 [.agg (coinC f M (sumM M)), .agg (bts w), uV n] (.tup [.agg (coinC true [] 0), nI .i64 13]) := by
  have nM : noHs (rows HoD.cells M) = true := rows_noHs hoD_noHs M
  have ck := ccheck_fn (f := f) k (by omega) (by omega)
  have oc := of_fn (f := f) (s := sumM M) k (by omega) hw
  have ole := of_le M w
  have sb := sub_fn (a := ofM M w) (b := n) (by omega) (by omega)
  rw [subS_def, subO_def, decide_eq_true ho] at sb
  rw [zero_coin]
  unfold coinC uV at *
  refine fn_of_vwp Γok Try.func37 (by kernel_rfl) rfl (by simp [Try.ntmps37]) (wpv_ok Γok (by kernel_rfl) _ _ _ ?_); conv => whnf
  refine ⟨_, ret_of_fn G0ok (ck) (by first | rfl | simp only [noHs, noH, nI, bI, Bool.and_self, Bool.and_true, Bool.true_and, nM]) (by first | rfl | simp only [noHs, noH, nI, bI, Bool.and_self, Bool.and_true, Bool.true_and, nM]), ?_⟩; (conv => whnf); (try (refine ⟨by kernel_rfl, ?_⟩; conv => whnf))
  refine bindP_intro (load_agg rfl rfl (by rw [bts_length, hw.1])) ?_
  conv => whnf
  try (refine ⟨by kernel_rfl, ?_⟩; conv => whnf)
  refine ⟨_, ret_of_fn G0ok (oc) (by first | rfl | simp only [noHs, noH, nI, bI, Bool.and_self, Bool.and_true, Bool.true_and, nM, bts_noHs]) (by first | rfl | simp only [noHs, noH, nI, bI, Bool.and_self, Bool.and_true, Bool.true_and, nM, bts_noHs]), ?_⟩; (conv => whnf); (try (refine ⟨by kernel_rfl, ?_⟩; conv => whnf))
  refine ⟨_, ret_of_fn G0ok (sb) (by first | rfl | simp only [noHs, noH, nI, bI, Bool.and_self, Bool.and_true, Bool.true_and, ]) (by first | rfl | simp only [noHs, noH, nI, bI, Bool.and_self, Bool.and_true, Bool.true_and, ]), ?_⟩; (conv => whnf); (try (refine ⟨by kernel_rfl, ?_⟩; conv => whnf))
  exact ⟨_, rfl, rfl⟩
theorem move_fn {f : Bool} {M : List HoD} {w v : List Nat} {n : Nat} (k : HolOk M) (hM : M.length < 40) (hs : sumM M < T256) (hw : WhoOk w) (hv : WhoOk v) (hn : n ≤ ofM M w) : FnV Try.prog G0 38 [.agg (coinC f M (sumM M)), .agg (bts w), .agg (bts v), uV n] (.tup [.agg (coinC false (moveS M w v n) (sumM (moveS M w v n))), nI .i64 0]) := by
  have nM : noHs (rows HoD.cells M) = true := rows_noHs hoD_noHs M
  have bf := burn_fn (f := f) (n := n) k (by omega) hs hw hn
  have bs := burn_sum (n := n) k hw hn
  have bl := with_len_burn M w (ofM M w - n) k hw (Nat.sub_le _ _)
  have mf := mint_fn (f := false) (M := burnS M w n) (w := v) (n := n) (with_ok k hw) (by unfold burnS; omega) (by omega) hv
  have e : moveS M w v n = mintS (burnS M w n) v n := rfl
  rw [← e] at mf
  have nN : noHs (rows HoD.cells (burnS M w n)) = true := rows_noHs hoD_noHs _
  have nO : noHs (rows HoD.cells (moveS M w v n)) = true := rows_noHs hoD_noHs _
  refine gen_ex (burnS M w n) fun N eN => ?_
  refine gen_ex (moveS M w v n) fun O eO => ?_
  rw [← eN] at bf mf nN
  rw [← eO] at mf nO ⊢
  unfold coinC uV at *
  refine fn_of_vwp Γok Try.func38 (by kernel_rfl) rfl (by simp [Try.ntmps38]) (wpv_ok Γok (by kernel_rfl) _ _ _ ?_); conv => whnf
  refine bindP_intro (load_agg rfl rfl (by rw [bts_length, hw.1])) ?_
  conv => whnf
  try (refine ⟨by kernel_rfl, ?_⟩; conv => whnf)
  refine ⟨_, ret_of_fn G0ok (bf) (by first | rfl | simp only [noHs, noH, nI, bI, Bool.and_self, Bool.and_true, Bool.true_and, nM, nN, bts_noHs, words_noHs]) (by first | rfl | simp only [noHs, noH, nI, bI, Bool.and_self, Bool.and_true, Bool.true_and, nM, nN, bts_noHs, words_noHs]), ?_⟩; (conv => whnf); (try (refine ⟨by kernel_rfl, ?_⟩; conv => whnf))
  refine bindP_intro (load_agg rfl rfl (by rw [bts_length, hv.1])) ?_
  conv => whnf
  try (refine ⟨by kernel_rfl, ?_⟩; conv => whnf)
  refine ⟨_, ret_of_fn G0ok (mf) (by first | rfl | simp only [noHs, noH, nI, bI, Bool.and_self, Bool.and_true, Bool.true_and, nO, nN, bts_noHs, words_noHs]) (by first | rfl | simp only [noHs, noH, nI, bI, Bool.and_self, Bool.and_true, Bool.true_and, nO, nN, bts_noHs, words_noHs]), ?_⟩; (conv => whnf); (try (refine ⟨by kernel_rfl, ?_⟩; conv => whnf))
  exact ⟨_, rfl, deepV_noH _ _ (by simp only [noHs, noH, nI, nO, Bool.and_self])⟩
theorem move_over {f : Bool} {M : List HoD} {w v : List Nat} {n : Nat} (k : HolOk M) (hM : M.length ≤ 40) (hs : sumM M < T256) (hw : WhoOk w) (hn : n < T256) (ho : ofM M w < n) : FnV Try.prog G0 38 [.agg (coinC f M (sumM M)), .agg (bts w), .agg (bts v), uV n] (.tup [.agg (coinC true [] 0), nI .i64 13]) := by
  have nM : noHs (rows HoD.cells M) = true := rows_noHs hoD_noHs M
  have bf := burn_over (f := f) (n := n) k hM hs hw hn ho
  rw [zero_coin] at *
  unfold coinC uV at *
  refine fn_of_vwp Γok Try.func38 (by kernel_rfl) rfl (by simp [Try.ntmps38]) (wpv_ok Γok (by kernel_rfl) _ _ _ ?_); conv => whnf
  refine bindP_intro (load_agg rfl rfl (by rw [bts_length, hw.1])) ?_
  conv => whnf
  try (refine ⟨by kernel_rfl, ?_⟩; conv => whnf)
  refine ⟨_, ret_of_fn G0ok (bf) (by first | rfl | simp only [noHs, noH, nI, bI, Bool.and_self, Bool.and_true, Bool.true_and, nM, bts_noHs, words_noHs]) (by first | rfl | simp only [noHs, noH, nI, bI, Bool.and_self, Bool.and_true, Bool.true_and, nM, bts_noHs, words_noHs]), ?_⟩; (conv => whnf); (try (refine ⟨by kernel_rfl, ?_⟩; conv => whnf))
  exact ⟨_, rfl, rfl⟩
end Go.Proofs.Ytlecdiopokalgaa
namespace Go.Proofs.Ytlecdiopokalgaa
set_option linter.unusedVariables false
set_option linter.unusedSimpArgs false
set_option linter.unusedSectionVars false
open Go.ChangeShapes Go.WideShapes Go.ChangeAt Go.RowKit Go.Joins
set_option maxRecDepth 10000
theorem who_fn (n : Int) : FnV Try.prog G0 31 [nI .i64 n] (.agg (bts (whoB (whoR n)))) := by
  obtain ⟨k, hk⟩ : ∃ k : Nat, n % 6 = (k : Int) := ⟨(n % 6).toNat, by have := Int.emod_nonneg n (show (6 : Int) ≠ 0 by decide); omega⟩
  have hk2 : k < 6 := by have := Int.emod_lt_of_pos n (show (0 : Int) < 6 by decide); omega
  have e : whoR n = k := by unfold whoR; omega
  rw [e]
  refine fn_of_vwp Γok Try.func31 (by kernel_rfl) rfl (by simp [Try.ntmps31]) (wpv_ok Γok (by kernel_rfl) _ _ _ ?_); conv => whnf
  refine ⟨_, ret_of_fn G0ok (picked_fn n 6 (by decide) (by decide)) (by first | rfl | simp only [noHs, noH, nI, bI, Bool.and_self, Bool.and_true, Bool.true_and, ]) (by first | rfl | simp only [noHs, noH, nI, bI, Bool.and_self, Bool.and_true, Bool.true_and, ]), ?_⟩; (conv => whnf); (try (refine ⟨by kernel_rfl, ?_⟩; conv => whnf))
  rw [hk, show wS .u8 (k : Int) = (k : Int) from by rw [ws_u8]; omega]
  conv => whnf
  try (refine ⟨by kernel_rfl, ?_⟩; conv => whnf)
  exact ⟨_, rfl, rfl⟩
theorem tdiv7 {a : Int} (h1 : -9223372036854775808 ≤ a) (h2 : a ≤ 9223372036854775807) : wS .i64 (a.tdiv 7) = a.tdiv 7 := by
  rcases Int.le_total 0 a with h | h
  · have e : a.tdiv 7 = a / 7 := Int.tdiv_eq_ediv_of_nonneg h
    rw [e]
    exact ws_i64 (by omega) (by omega)
  · have e : a.tdiv 7 = -((-a) / 7) := by
      rw [← Int.tdiv_eq_ediv_of_nonneg (show 0 ≤ -a by omega), Int.neg_tdiv, Int.neg_neg]
    rw [e]
    exact ws_i64 (by omega) (by omega)
def minBad (M : List HoD) (r : RawD) : Bool := decide ((r.k % 4 = 0 ∨ r.k % 4 = 1) ∧ ¬ amtR r ≤ ofM M (whoB (whoR r.a)))
def minFl (l : List RawD) : Nat → Bool
  | 0 => true
  | i + 1 => match l[i]? with
    | some r => minBad (minF l i) r && minFl l i
    | none => minFl l i
theorem minFl_next {l : List RawD} {i : Nat} (h : i < l.length) : minFl l (i + 1) = (minBad (minF l i) l[i] && minFl l i) := by
  rw [minFl, List.getElem?_eq_getElem h]
theorem minted_fn {l : List RawD} (hl : l.length ≤ maxLen) (hok : ∀ r ∈ l, r.ok) (l' : List RawD) (e' : l' = l.take 20) : ∃ f, FnV Try.prog G0 29 [.ds false l.length (rawsC l)] (.tup [.agg (coinC f (minF l' l'.length) (sumM (minF l' l'.length))), bI true]) := by
  obtain ⟨f', so⟩ := some_fn false l 20 hl (by decide)
  rw [← e'] at so
  have hl' : l'.length ≤ 20 := by rw [e', List.length_take]; omega
  have hok' : ∀ r ∈ l', r.ok := fun r hr => hok r (List.mem_of_mem_take (e' ▸ hr))
  clear e'
  have nR : noHs (rawsC l) = true := rawsC_noHs _
  have nR' : noHs (rawsC l') = true := rawsC_noHs _
  refine ⟨minFl l' l'.length, ?_⟩
  refine fn_of_vwp Γok Try.func29 (by kernel_rfl) rfl (by simp [Try.ntmps29]) (wpv_ok Γok (by kernel_rfl) _ _ _ ?_); conv => whnf
  refine ⟨_, ret_of_fn G0ok (so) (by first | rfl | simp only [noHs, noH, nI, bI, Bool.and_self, Bool.and_true, Bool.true_and, nR, nR']) (by first | rfl | simp only [noHs, noH, nI, bI, Bool.and_self, Bool.and_true, Bool.true_and, nR, nR']), ?_⟩; (conv => whnf); (try (refine ⟨by kernel_rfl, ?_⟩; conv => whnf))
  refine vloop_invK G0ok [(0, some 0), (1, some 1)] 2 (X := Nat) (fun i => [(14, nI .i64 i), (13, nI .i64 l'.length), (12, .ds f' l'.length (rawsC l')), (5, bI true), (4, .ptr 1 0), (3, bI false), (2, .ptr 0 0)]) (fun i => [(0, some [nI .u64 0, nI .u64 0, nI .u64 0, nI .u64 0, .ds true 0 []]), (1, some (coinC (minFl l' i) (minF l' i) (sumM (minF l' i))))])
    (fun i => i ≤ l'.length) (fun i => l'.length - i) 0 rfl ⟨⟨_, rfl, conv_nI (rfl)⟩, ⟨_, rfl, conv_nI (rfl)⟩, ⟨_, rfl, conv_eq rfl (nR')⟩, ⟨_, rfl, .same rfl⟩, ⟨_, rfl, .ptr rfl⟩, ⟨_, rfl, .same rfl⟩, ⟨_, rfl, .ptr rfl⟩, trivial⟩ ⟨.inr ⟨_, _, rfl, rfl, .same rfl⟩, .inr ⟨_, _, rfl, rfl, convs_eq ((VV.agg.inj zero_coin).symm) (coinC_noHs _ _ _)⟩, trivial⟩ (Nat.zero_le _) ?_
  intro i hi
  try dsimp only at hi ⊢
  refine wpv_ok Γok (by kernel_rfl) _ _ _ ?_; conv => whnf
  have ok := minF_ok l' i hi
  refine bool_cases (fun hc => ?_) (fun hc => ?_)
  · have hc := of_decide_eq_true hc
    have hc : i < l'.length := by omega
    have nx := minF_next hc
    have nf := minFl_next hc
    have rok := hok' _ (List.getElem_mem hc)
    conv => whnf
    try (refine ⟨by kernel_rfl, ?_⟩; conv => whnf)
    refine bindP_intro (if_pos (inB_ok (by omega) (by omega))) ?_; conv => whnf
    refine bindP_intro (raw_load (i := i) rfl rfl rfl (by dsimp only; omega) hc) ?_
    refine gen_ex l'[i] fun r er => ?_
    rw [← er] at nx nf rok ⊢
    clear er
    refine gen_ex (minF l' (i + 1)) fun N eN => ?_
    rw [← eN] at nx
    refine gen_ex (minF l' i) fun M eM => ?_
    rw [← eM] at nx nf ok ⊢
    refine gen_ex (minFl l' (i + 1)) fun g eg => ?_
    rw [← eg] at nf
    refine gen_ex (minFl l' i) fun f ef => ?_
    rw [← ef] at nf ⊢
    obtain ⟨n, hn⟩ : ∃ n : Nat, r.b % 100 = (n : Int) := ⟨(r.b % 100).toNat, by have := Int.emod_nonneg r.b (show (100 : Int) ≠ 0 by decide); omega⟩
    have hn2 : n < 100 := by have := Int.emod_lt_of_pos r.b (show (0 : Int) < 100 by decide); omega
    have en : amtR r = n := by unfold amtR; omega
    unfold minG at nx
    unfold minBad at nf
    rw [en] at nx nf
    have hw := whoB_ok (whoR_lt r.a)
    have hv := whoB_ok (whoR_lt (r.a.tdiv 7))
    have wa := who_fn r.a
    have wb := who_fn (r.a.tdiv 7)
    have okS := ok.sum
    have okL := ok.len
    have T0 : (10000 : Nat) < T256 := by decide
    have mf := mint_fn (f := f) (n := n) ok.hol (by omega) (by omega) hw
    have uv : uV n = .agg (words [n, 0, 0, 0]) := congrArg VV.agg (uC_lit (n := n) (by unfold B64; omega))
    rw [uv] at mf
    have nc := coinC_noHs
    unfold RawD.v RawD.cells
    conv => whnf
    try (refine ⟨by kernel_rfl, ?_⟩; conv => whnf)
    refine ⟨_, ret_of_fn G0ok (picked_fn r.b 100 (by decide) (by decide)) (by first | rfl | simp only [noHs, noH, nI, bI, Bool.and_self, Bool.and_true, Bool.true_and, ]) (by first | rfl | simp only [noHs, noH, nI, bI, Bool.and_self, Bool.and_true, Bool.true_and, ]), ?_⟩; (conv => whnf); (try (refine ⟨by kernel_rfl, ?_⟩; conv => whnf))
    rw [hn, ws_u64n (x := (n : Int)) (by omega) (by omega)]
    conv => whnf
    try (refine ⟨by kernel_rfl, ?_⟩; conv => whnf)
    refine ⟨_, ret_of_fn G0ok (wa) (by first | rfl | simp only [noHs, noH, nI, bI, Bool.and_self, Bool.and_true, Bool.true_and, bts_noHs]) (by first | rfl | simp only [noHs, noH, nI, bI, Bool.and_self, Bool.and_true, Bool.true_and, bts_noHs]), ?_⟩; (conv => whnf); (try (refine ⟨by kernel_rfl, ?_⟩; conv => whnf))
    refine ⟨_, ret_of_fn G0ok (mf) (by first | rfl | simp only [noHs, noH, nI, bI, Bool.and_self, Bool.and_true, Bool.true_and, nc, bts_noHs, words_noHs]) (by first | rfl | simp only [noHs, noH, nI, bI, Bool.and_self, Bool.and_true, Bool.true_and, nc, bts_noHs, words_noHs]), ?_⟩; (conv => whnf); (try (refine ⟨by kernel_rfl, ?_⟩; conv => whnf))
    refine ⟨_, ret_of_fn G0ok (picked_fn r.k 4 (by decide) (by decide)) (by first | rfl | simp only [noHs, noH, nI, bI, Bool.and_self, Bool.and_true, Bool.true_and, ]) (by first | rfl | simp only [noHs, noH, nI, bI, Bool.and_self, Bool.and_true, Bool.true_and, ]), ?_⟩; (conv => whnf); (try (refine ⟨by kernel_rfl, ?_⟩; conv => whnf))
    by_cases hz : r.k % 4 = 0
    · rw [show (r.k % 4 == 0) = true from by rw [hz]; rfl]
      rw [if_pos hz] at nx
      by_cases hb : n ≤ ofM M (whoB (whoR r.a))
      · rw [if_pos hb] at nx
        rw [decide_eq_false (fun h => h.2 hb), Bool.false_and] at nf
        have bf := burn_fn (f := f) ok.hol (by omega) (by omega) hw hb
        rw [uv, ← nx] at bf
        conv => whnf
        try (refine ⟨by kernel_rfl, ?_⟩; conv => whnf)
        refine ⟨_, ret_of_fn G0ok (wa) (by first | rfl | simp only [noHs, noH, nI, bI, Bool.and_self, Bool.and_true, Bool.true_and, bts_noHs]) (by first | rfl | simp only [noHs, noH, nI, bI, Bool.and_self, Bool.and_true, Bool.true_and, bts_noHs]), ?_⟩; (conv => whnf); (try (refine ⟨by kernel_rfl, ?_⟩; conv => whnf))
        refine ⟨_, ret_of_fn G0ok (bf) (by first | rfl | simp only [noHs, noH, nI, bI, Bool.and_self, Bool.and_true, Bool.true_and, nc, bts_noHs, words_noHs]) (by first | rfl | simp only [noHs, noH, nI, bI, Bool.and_self, Bool.and_true, Bool.true_and, nc, bts_noHs, words_noHs]), ?_⟩; (conv => whnf); (try (refine ⟨by kernel_rfl, ?_⟩; conv => whnf))
        subst eN eg
        rw [← nf]
        refine next_round (y := i) G0ok (i + 1) [(0, some 0), (1, some 1)] rfl ⟨⟨_, rfl, conv_nI (ws_i64 (by omega) (by omega))⟩, ⟨_, rfl, conv_nI (rfl)⟩, ⟨_, rfl, conv_eq rfl (nR')⟩, ⟨_, rfl, .same rfl⟩, ⟨_, rfl, .ptr rfl⟩, ⟨_, rfl, .same rfl⟩, ⟨_, rfl, .ptr rfl⟩, trivial⟩ ⟨.inr ⟨_, _, rfl, rfl, .same rfl⟩, .inr ⟨_, _, rfl, rfl, .same (coinC_noHs _ _ _)⟩, trivial⟩ (by omega) (by omega)
      · rw [if_neg hb] at nx
        rw [decide_eq_true ⟨.inl hz, hb⟩, Bool.true_and] at nf
        have bf := burn_over (f := f) ok.hol (by omega) (by omega) hw (by omega) (show ofM M (whoB (whoR r.a)) < n by omega)
        rw [uv] at bf
        conv => whnf
        try (refine ⟨by kernel_rfl, ?_⟩; conv => whnf)
        refine ⟨_, ret_of_fn G0ok (wa) (by first | rfl | simp only [noHs, noH, nI, bI, Bool.and_self, Bool.and_true, Bool.true_and, bts_noHs]) (by first | rfl | simp only [noHs, noH, nI, bI, Bool.and_self, Bool.and_true, Bool.true_and, bts_noHs]), ?_⟩; (conv => whnf); (try (refine ⟨by kernel_rfl, ?_⟩; conv => whnf))
        refine ⟨_, ret_of_fn G0ok (bf) (by first | rfl | simp only [noHs, noH, nI, bI, Bool.and_self, Bool.and_true, Bool.true_and, nc, bts_noHs, words_noHs]) (by first | rfl | simp only [noHs, noH, nI, bI, Bool.and_self, Bool.and_true, Bool.true_and, nc, bts_noHs, words_noHs]), ?_⟩; (conv => whnf); (try (refine ⟨by kernel_rfl, ?_⟩; conv => whnf))
        rw [← nx, ← nf]
        subst eN eg
        refine next_round (y := i) G0ok (i + 1) [(0, some 0), (1, some 1)] rfl ⟨⟨_, rfl, conv_nI (ws_i64 (by omega) (by omega))⟩, ⟨_, rfl, conv_nI (rfl)⟩, ⟨_, rfl, conv_eq rfl (nR')⟩, ⟨_, rfl, .same rfl⟩, ⟨_, rfl, .ptr rfl⟩, ⟨_, rfl, .same rfl⟩, ⟨_, rfl, .ptr rfl⟩, trivial⟩ ⟨.inr ⟨_, _, rfl, rfl, .same rfl⟩, .inr ⟨_, _, rfl, rfl, .same (coinC_noHs _ _ _)⟩, trivial⟩ (by omega) (by omega)
    · rw [show (r.k % 4 == 0) = false from beq_false_of_ne hz]
      rw [if_neg hz] at nx
      conv => whnf
      try (refine ⟨by kernel_rfl, ?_⟩; conv => whnf)
      by_cases h1 : r.k % 4 = 1
      · rw [show (r.k % 4 == 1) = true from by rw [h1]; rfl]
        rw [if_pos h1] at nx
        conv => whnf
        try (refine ⟨by kernel_rfl, ?_⟩; conv => whnf)
        refine ⟨_, ret_of_fn G0ok (wa) (by first | rfl | simp only [noHs, noH, nI, bI, Bool.and_self, Bool.and_true, Bool.true_and, bts_noHs]) (by first | rfl | simp only [noHs, noH, nI, bI, Bool.and_self, Bool.and_true, Bool.true_and, bts_noHs]), ?_⟩; (conv => whnf); (try (refine ⟨by kernel_rfl, ?_⟩; conv => whnf))
        rw [tdiv7 rok.2.1.1 rok.2.1.2]
        refine ⟨_, ret_of_fn G0ok (wb) (by first | rfl | simp only [noHs, noH, nI, bI, Bool.and_self, Bool.and_true, Bool.true_and, bts_noHs]) (by first | rfl | simp only [noHs, noH, nI, bI, Bool.and_self, Bool.and_true, Bool.true_and, bts_noHs]), ?_⟩; (conv => whnf); (try (refine ⟨by kernel_rfl, ?_⟩; conv => whnf))
        by_cases hb : n ≤ ofM M (whoB (whoR r.a))
        · rw [if_pos hb] at nx
          rw [decide_eq_false (fun h => h.2 hb), Bool.false_and] at nf
          have bf := move_fn (f := f) ok.hol (by omega) (by omega) hw hv hb
          rw [uv, ← nx] at bf
          refine ⟨_, ret_of_fn G0ok (bf) (by first | rfl | simp only [noHs, noH, nI, bI, Bool.and_self, Bool.and_true, Bool.true_and, nc, bts_noHs, words_noHs]) (by first | rfl | simp only [noHs, noH, nI, bI, Bool.and_self, Bool.and_true, Bool.true_and, nc, bts_noHs, words_noHs]), ?_⟩; (conv => whnf); (try (refine ⟨by kernel_rfl, ?_⟩; conv => whnf))
          subst eN eg
          rw [← nf]
          refine next_round (y := i) G0ok (i + 1) [(0, some 0), (1, some 1)] rfl ⟨⟨_, rfl, conv_nI (ws_i64 (by omega) (by omega))⟩, ⟨_, rfl, conv_nI (rfl)⟩, ⟨_, rfl, conv_eq rfl (nR')⟩, ⟨_, rfl, .same rfl⟩, ⟨_, rfl, .ptr rfl⟩, ⟨_, rfl, .same rfl⟩, ⟨_, rfl, .ptr rfl⟩, trivial⟩ ⟨.inr ⟨_, _, rfl, rfl, .same rfl⟩, .inr ⟨_, _, rfl, rfl, .same (coinC_noHs _ _ _)⟩, trivial⟩ (by omega) (by omega)
        · rw [if_neg hb] at nx
          rw [decide_eq_true ⟨.inr h1, hb⟩, Bool.true_and] at nf
          have bf := move_over (f := f) (v := whoB (whoR (r.a.tdiv 7))) ok.hol (by omega) (by omega) hw (by omega) (show ofM M (whoB (whoR r.a)) < n by omega)
          rw [uv] at bf
          refine ⟨_, ret_of_fn G0ok (bf) (by first | rfl | simp only [noHs, noH, nI, bI, Bool.and_self, Bool.and_true, Bool.true_and, nc, bts_noHs, words_noHs]) (by first | rfl | simp only [noHs, noH, nI, bI, Bool.and_self, Bool.and_true, Bool.true_and, nc, bts_noHs, words_noHs]), ?_⟩; (conv => whnf); (try (refine ⟨by kernel_rfl, ?_⟩; conv => whnf))
          rw [← nx, ← nf]
          subst eN eg
          refine next_round (y := i) G0ok (i + 1) [(0, some 0), (1, some 1)] rfl ⟨⟨_, rfl, conv_nI (ws_i64 (by omega) (by omega))⟩, ⟨_, rfl, conv_nI (rfl)⟩, ⟨_, rfl, conv_eq rfl (nR')⟩, ⟨_, rfl, .same rfl⟩, ⟨_, rfl, .ptr rfl⟩, ⟨_, rfl, .same rfl⟩, ⟨_, rfl, .ptr rfl⟩, trivial⟩ ⟨.inr ⟨_, _, rfl, rfl, .same rfl⟩, .inr ⟨_, _, rfl, rfl, .same (coinC_noHs _ _ _)⟩, trivial⟩ (by omega) (by omega)
      · rw [show (r.k % 4 == 1) = false from beq_false_of_ne h1]
        rw [if_neg h1] at nx
        rw [decide_eq_false (fun h => h.1.elim hz h1), Bool.false_and] at nf
        conv => whnf
        try (refine ⟨by kernel_rfl, ?_⟩; conv => whnf)
        rw [← nx, ← nf]
        subst eN eg
        refine next_round (y := i) G0ok (i + 1) [(0, some 0), (1, some 1)] rfl ⟨⟨_, rfl, conv_nI (ws_i64 (by omega) (by omega))⟩, ⟨_, rfl, conv_nI (rfl)⟩, ⟨_, rfl, conv_eq rfl (nR')⟩, ⟨_, rfl, .same rfl⟩, ⟨_, rfl, .ptr rfl⟩, ⟨_, rfl, .same rfl⟩, ⟨_, rfl, .ptr rfl⟩, trivial⟩ ⟨.inr ⟨_, _, rfl, rfl, .same rfl⟩, .inr ⟨_, _, rfl, rfl, .same (coinC_noHs _ _ _)⟩, trivial⟩ (by omega) (by omega)
  · have hc := of_decide_eq_false hc
    have e : i = l'.length := by omega
    subst e
    conv => whnf
    try (refine ⟨by kernel_rfl, ?_⟩; conv => whnf)
    exact ⟨_, rfl, deepV_noH _ _ (by simp only [noHs, noH, nI, bI, coinC_noHs, Bool.and_self])⟩
end Go.Proofs.Ytlecdiopokalgaa
namespace Go.Proofs.Ytlecdiopokalgaa
set_option linter.unusedVariables false
set_option linter.unusedSimpArgs false
set_option linter.unusedSectionVars false
open Go.ChangeShapes Go.WideShapes Go.ChangeAt Go.RowKit Go.Joins
set_option maxRecDepth 10000
theorem coinTells_fn : FnV Try.prog G0 33 [] (bI true) := by
  have hw : WhoOk (whoB 1) := whoB_ok (by decide)
  have wf := who_fn 1
  rw [show whoR 1 = 1 from rfl] at wf
  have mf := mint_fn (f := true) (M := []) (n := 5) hol_nil (by decide) (by decide) hw
  rw [show sumM [] = 0 from rfl, zero_coin] at mf
  have uv : uV 5 = .agg (words [5, 0, 0, 0]) := congrArg VV.agg (uC_lit (n := 5) (by decide))
  have em : mintS [] (whoB 1) 5 = [⟨whoB 1, 5⟩] := rfl
  have es : sumM [⟨whoB 1, 5⟩] = 5 := rfl
  rw [uv, em, es] at mf
  have hk : HolOk [⟨whoB 1, 5⟩] := em ▸ with_ok hol_nil hw
  have oc := cOf_fn (f := false) (M := [⟨whoB 1, 5⟩]) hk (by decide) (by decide) hw
  rw [es, show ofM [⟨whoB 1, 5⟩] (whoB 1) = 5 from rfl] at oc
  have e5 := eq_uC (a := 5) (b := 5) (by decide) (by decide)
  rw [decide_eq_true rfl, uC_lit (n := 5) (by decide)] at e5
  have nc := coinC_noHs
  have l0 : ∀ i, lim 5 i = [5, 0, 0, 0].getD i 0 ∨ 4 ≤ i := fun i => by
    rcases Nat.lt_or_ge i 4 with h | h
    · left
      have : i = 0 ∨ i = 1 ∨ i = 2 ∨ i = 3 := by omega
      rcases this with rfl | rfl | rfl | rfl <;> rw [lim_def] <;> rfl
    · exact .inr h
  have cc : coinC false [⟨whoB 1, 5⟩] 5 = words [5, 0, 0, 0] ++ [.ds false 1 (rows HoD.cells [⟨whoB 1, 5⟩])] := by
    unfold coinC
    rw [(l0 0).resolve_right (by decide), (l0 1).resolve_right (by decide), (l0 2).resolve_right (by decide), (l0 3).resolve_right (by decide)]
    rfl
  have nr : noHs (rows HoD.cells [⟨whoB 1, 5⟩]) = true := rows_noHs hoD_noHs _
  rw [cc] at mf oc
  rw [uv] at oc
  refine gen_ex (rows HoD.cells [⟨whoB 1, 5⟩]) fun R eR => ?_
  rw [← eR] at mf oc nr
  have nw : noHs (words [5, 0, 0, 0] ++ [VV.ds false 1 R]) = true := noHs_app rfl (by simp only [noHs, noH, nr, Bool.and_self])
  refine fn_of_vwp Γok Try.func33 (by kernel_rfl) rfl (by simp [Try.ntmps33]) (wpv_ok Γok (by kernel_rfl) _ _ _ ?_); conv => whnf
  refine ⟨_, ret_of_fn G0ok (wf) (by first | rfl | simp only [noHs, noH, nI, bI, Bool.and_self, Bool.and_true, Bool.true_and, bts_noHs]) (by first | rfl | simp only [noHs, noH, nI, bI, Bool.and_self, Bool.and_true, Bool.true_and, bts_noHs]), ?_⟩; (conv => whnf); (try (refine ⟨by kernel_rfl, ?_⟩; conv => whnf))
  refine ⟨_, ret_of_fn G0ok (mf) (by first | rfl | simp only [noHs, noH, nI, bI, Bool.and_self, Bool.and_true, Bool.true_and, nw, nc, bts_noHs, words_noHs]) (by first | rfl | simp only [noHs, noH, nI, bI, Bool.and_self, Bool.and_true, Bool.true_and, nw, nc, bts_noHs, words_noHs]), ?_⟩; (conv => whnf); (try (refine ⟨by kernel_rfl, ?_⟩; conv => whnf))
  refine ⟨_, ret_of_fn G0ok (wf) (by first | rfl | simp only [noHs, noH, nI, bI, Bool.and_self, Bool.and_true, Bool.true_and, bts_noHs]) (by first | rfl | simp only [noHs, noH, nI, bI, Bool.and_self, Bool.and_true, Bool.true_and, bts_noHs]), ?_⟩; (conv => whnf); (try (refine ⟨by kernel_rfl, ?_⟩; conv => whnf))
  refine ⟨_, ret_of_fn G0ok (oc) (by first | rfl | simp only [noHs, noH, nI, bI, Bool.and_self, Bool.and_true, Bool.true_and, nw, nc, bts_noHs, words_noHs]) (by first | rfl | simp only [noHs, noH, nI, bI, Bool.and_self, Bool.and_true, Bool.true_and, nw, nc, bts_noHs, words_noHs]), ?_⟩; (conv => whnf); (try (refine ⟨by kernel_rfl, ?_⟩; conv => whnf))
  refine ⟨true, e5, ?_⟩
  conv => whnf
  try (refine ⟨by kernel_rfl, ?_⟩; conv => whnf)
  refine ⟨true, e5, ?_⟩
  conv => whnf
  try (refine ⟨by kernel_rfl, ?_⟩; conv => whnf)
  exact ⟨_, rfl, rfl⟩
end Go.Proofs.Ytlecdiopokalgaa
