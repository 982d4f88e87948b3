/- For the rows of the statements: what is known of what comes in; from a contract of the engine to the row. -/
import Derived.Test.YtmfgldfldejgcaaVTab
import Derived.Test.YtmfgldfldejgcaaRows
import Derived.ProofKit
import Derived.OpenShut
import Derived.ShutString
import Derived.ChangeOld
import Derived.Below
import Derived.Lib.SmallJoins
import Derived.Deep.Slices
namespace Go.Proofs.Ytmfgldfldejgcaa
set_option linter.unusedVariables false
set_option linter.unusedSimpArgs false
set_option linter.unusedSectionVars false
open Go.ChangeShapes Go.WideShapes Go.ChangeAt Go.RowKit Go.Joins

theorem rowOwn : ownKnob Try.prog.godebug = none := by kernel_rfl
theorem rowLaid : laidOutB Try.prog = true := by kernel_rfl
def G0 : Globs := fun _ => none
theorem G0ok : GOk G0 := fun _ _ h => by cases h

theorem calls_of_fn {P : Program} {G : Globs} {g : FuncId} {fn : Func} {code : Code} (hf : P.funcs[g]? = some fn) (hname : (fn.name == "runtime.NumGoroutine") = false) (hb : fn.body = some code) {dargs : List VV} (h : FnV P G g dargs (bI true))
    {w : World} {args : Array Value} (hG : ∀ g es, G g = some es → VR (E0 w (fun _ => True)) (.dp es 0) (.pointer (some ⟨g, 0, none⟩))) (ha : VRs (E0 w (fun _ => True)) dargs args.toList) :
    Calls P g args w fun e w' => e = .returned (.bool true) ∧ Below w.heap.size w w' := by
  have h1 := h w (fun _ => True) args hG ha
  have hent : (callFunc g args).run P w = .ok (.enter g args) w := by
    have h1 : fn.name ≠ "runtime.NumGoroutine" := by simpa using hname
    simp [callFunc, hf, h1, hb]
  unfold FGoes at h1
  rw [hent] at h1
  refine Calls.mono h1 fun e w' ⟨u, he, hu, hbel⟩ => ⟨?_, hbel⟩
  simp only [bI, VR] at hu
  rw [he, hu]

/-- What is known of a number that came in. -/
def I64 (n : Int) : Prop := -9223372036854775808 ≤ n ∧ n ≤ 9223372036854775807
theorem wrap_i64 {x : Int} (h1 : -9223372036854775808 ≤ x) (h2 : x ≤ 9223372036854775807) : IntKind.i64.wrap x = x := by
  simp only [IntKind.wrap, IntKind.bits, IntKind.signed]
  simp
  omega
theorem ws_i64 {x : Int} (h1 : -9223372036854775808 ≤ x) (h2 : x ≤ 9223372036854775807) : wS .i64 x = x := (wS_eq _ _).trans (wrap_i64 h1 h2)
theorem ws_u64 (x : Int) : wS .u64 x = x % 18446744073709551616 := by
  rw [wS_eq]
  simp only [IntKind.wrap, IntKind.bits, IntKind.signed]
  simp
theorem ws_u64n {x : Int} (h1 : 0 ≤ x) (h2 : x < 18446744073709551616) : wS .u64 x = x := by rw [ws_u64]; omega
theorem ws_u8 (x : Int) : wS .u8 x = x % 256 := by
  rw [wS_eq]
  simp only [IntKind.wrap, IntKind.bits, IntKind.signed]
  simp
theorem conv_nI {ren : List (Nat × Option Nat)} {lkF : Nat → Option (List VV)} {k : IntKind} {x y : Int} (h : x = y) : Conv ren lkF (.v (.int k x)) (nI k y) := by subst h; exact .same rfl
theorem conv_eq {ren : List (Nat × Option Nat)} {lkF : Nat → Option (List VV)} {x y : VV} (h : x = y) (hn : noH y = true) : Conv ren lkF x y := by subst h; exact .same hn
theorem bv_toNat_ofNat {w x : Nat} (h : x < 2 ^ w) : (BitVec.ofInt w (x : Int)).toNat = x := by
  rw [BitVec.toNat_ofInt]
  have : ((x : Int) % (2 ^ w : Nat)).toNat = x := by
    rw [Int.emod_eq_of_lt (by omega) (by exact_mod_cast h)]
    rfl
  exact this
theorem bitS_and {k : IntKind} {x y : Nat} (hx : x < 2 ^ k.bits) (hy : y < 2 ^ k.bits) : bitS .and k x y = k.wrap ((x &&& y : Nat) : Int) := by
  simp only [bitS_eq, bitI, BitVec.toNat_and, bv_toNat_ofNat hx, bv_toNat_ofNat hy]
theorem bitS_or {k : IntKind} {x y : Nat} (hx : x < 2 ^ k.bits) (hy : y < 2 ^ k.bits) : bitS .or k x y = k.wrap ((x ||| y : Nat) : Int) := by
  simp only [bitS_eq, bitI, BitVec.toNat_or, bv_toNat_ofNat hx, bv_toNat_ofNat hy]
theorem bitS_xor {k : IntKind} {x y : Nat} (hx : x < 2 ^ k.bits) (hy : y < 2 ^ k.bits) : bitS .xor k x y = k.wrap ((x ^^^ y : Nat) : Int) := by
  simp only [bitS_eq, bitI, BitVec.toNat_xor, bv_toNat_ofNat hx, bv_toNat_ofNat hy]
theorem u64_wrap {x : Nat} (h : x < 2 ^ 64) : IntKind.u64.wrap (x : Int) = x := by rw [← wS_eq, ws_u64n (by omega) (by omega)]
theorem u64_and {x y : Nat} (hx : x < 2 ^ 64) (hy : y < 2 ^ 64) : bitS .and .u64 x y = ((x &&& y : Nat) : Int) := by
  rw [bitS_and (by simp only [IntKind.bits]; omega) (by simp only [IntKind.bits]; omega), u64_wrap (Nat.lt_of_le_of_lt Nat.and_le_left hx)]
theorem u64_or {x y : Nat} (hx : x < 2 ^ 64) (hy : y < 2 ^ 64) : bitS .or .u64 x y = ((x ||| y : Nat) : Int) := by
  rw [bitS_or (by simp only [IntKind.bits]; omega) (by simp only [IntKind.bits]; omega), u64_wrap (Nat.or_lt_two_pow hx hy)]
theorem u64_xor {x y : Nat} (hx : x < 2 ^ 64) (hy : y < 2 ^ 64) : bitS .xor .u64 x y = ((x ^^^ y : Nat) : Int) := by
  rw [bitS_xor (by simp only [IntKind.bits]; omega) (by simp only [IntKind.bits]; omega), u64_wrap (Nat.xor_lt_two_pow hx hy)]
theorem shl_val {k : IntKind} {x : Int} {n : Nat} (h : n ≤ k.bits) : wS k (x * 2 ^ min (n : Int).toNat k.bits) = k.wrap (x * ((2 ^ n : Nat) : Int)) := by
  have h1 : min (n : Int).toNat k.bits = n := by omega
  rw [h1, wS_eq]
  push_cast
  rfl
theorem shr_val {k : IntKind} {x n : Nat} (h : n ≤ k.bits) : (x : Int).fdiv (2 ^ min (n : Int).toNat k.bits) = ((x / 2 ^ n : Nat) : Int) := by
  have h1 : min (n : Int).toNat k.bits = n := by omega
  rw [h1, Int.fdiv_eq_ediv_of_nonneg _ (Int.pow_nonneg (by omega))]
  push_cast
  rfl
theorem shl_one {n : Nat} (h : n < 62) : wS .i64 (1 * 2 ^ min (n : Int).toNat IntKind.i64.bits) = ((2 ^ n : Nat) : Int) := by
  rw [shl_val (by simp only [IntKind.bits]; omega), Int.one_mul]
  have h2 : 2 ^ n < 2 ^ 62 := Nat.pow_lt_pow_right (by omega) h
  generalize 2 ^ n = p at *
  rw [wrap_i64 (by omega) (by omega)]
/-- A raw thing. -/
structure RawD where
  k : Int
  a : Int
  b : Int
  s : ByteArray
def RawD.ok (r : RawD) : Prop := I64 r.k ∧ I64 r.a ∧ I64 r.b ∧ r.s.size ≤ maxLen
def RawD.cells (r : RawD) : List VV := [nI .i64 r.k, nI .i64 r.a, nI .i64 r.b, .v (.string r.s)]
def RawD.v (r : RawD) : VV := .agg r.cells
def RawD.vals (r : RawD) : List Value := [.int .i64 r.k, .int .i64 r.a, .int .i64 r.b, .string r.s]
def rawsC (l : List RawD) : List VV := l.flatMap RawD.cells
def rawsV (l : List RawD) : VV := .ds false l.length (rawsC l)
theorem RawD.cells_VRs (E : Env) (r : RawD) : VRs E r.cells r.vals := by simp [RawD.cells, RawD.vals, VRs, VR, nI]
theorem RawD.vals_ones (r : RawD) : ones r.vals := by
  intro u hu
  simp [RawD.vals] at hu
  rcases hu with rfl | rfl | rfl | rfl <;> rfl
theorem rawsC_length (l : List RawD) : (rawsC l).length = l.length * 4 := by
  unfold rawsC
  induction l with
  | nil => rfl
  | cons r l ih => simp [List.flatMap_cons, RawD.cells, ih]; omega
theorem rawsC_noHs (l : List RawD) : noHs (rawsC l) = true := noHs_flatMap (fun r => by simp [RawD.cells, noHs, noH, nI]) l

theorem raw_cells {H : Type} {enc : TypeId × Value → H} {w : World} {base : Nat} {spare : Nat → Bool} {held : Bool} {fuel : Nat} {cs : List Value} {x : DataW H × List MemPlace} (h : DataW.trod enc Try.prog w base spare held fuel 29 cs = some x) :
    ∃ r : RawD, r.ok ∧ cs = r.vals := by
  have hc : Try.prog.cellsOf 29 = 4 := by kernel_rfl
  have hi : Try.prog.cellsOf 3 = 1 := by kernel_rfl
  have hs : Try.prog.cellsOf 9 = 1 := by kernel_rfl
  cases fuel with
  | zero => simp [DataW.trod] at h
  | succ fuel =>
    unfold DataW.trod at h
    rw [Try.underlying29] at h
    simp only [hc] at h
    split at h
    · rename_i hl
      match cs, hl with
      | [c0, c1, c2, c3], _ =>
        obtain ⟨xs, h1, _⟩ := Option.map_eq_some_iff.1 h
        simp only [List.mapM_cons, List.mapM_nil, Option.bind_eq_bind, Option.pure_def, hi, hs, List.drop_zero, List.drop_succ_cons, List.take_succ_cons, List.take_zero] at h1
        obtain ⟨d0, g0, h1⟩ := Option.bind_eq_some_iff.1 h1
        obtain ⟨l1, h1, _⟩ := Option.bind_eq_some_iff.1 h1
        obtain ⟨d1, g1, h1⟩ := Option.bind_eq_some_iff.1 h1
        obtain ⟨l2, h1, _⟩ := Option.bind_eq_some_iff.1 h1
        obtain ⟨d2, g2, h1⟩ := Option.bind_eq_some_iff.1 h1
        obtain ⟨l3, h1, _⟩ := Option.bind_eq_some_iff.1 h1
        obtain ⟨d3, g3, _⟩ := Option.bind_eq_some_iff.1 h1
        obtain ⟨k, e0, _, w0⟩ := DataW.trod_int Try.underlying3 g0
        obtain ⟨a, e1, _, w1⟩ := DataW.trod_int Try.underlying3 g1
        obtain ⟨b, e2, _, w2⟩ := DataW.trod_int Try.underlying3 g2
        obtain ⟨s, e3, _, w3⟩ := DataW.trod_string Try.underlying9 g3
        simp only [List.cons.injEq, and_true] at e0 e1 e2 e3
        subst e0 e1 e2 e3
        exact ⟨⟨k, a, b, s⟩, ⟨bounds_i64 w0, bounds_i64 w1, bounds_i64 w2, w3⟩, rfl⟩
    · cases h
section
variable {H : Type} {enc : TypeId × Value → H} {r : Reach} {W : World} {base b0 : Nat} {spare : Nat → Bool} {held : Bool} {v : Value} {d : DataW H} {p : List MemPlace}
theorem raw_open (hv : Value.okWide Try.prog W r b0 29 v) (h : DataW.Trod enc Try.prog W base spare held 29 v d p) : ∃ q : RawD, q.ok ∧ ∀ E, VR E q.v v := by
  obtain ⟨fuel, hf⟩ := h
  obtain ⟨q, h1, h2⟩ := raw_cells hf
  refine ⟨q, h1, fun E => ?_⟩
  unfold Value.okWide at hv
  rw [Try.underlying29] at hv
  obtain ⟨cs, rfl, _⟩ := hv
  simp only [RawD.v, VR]
  exact ⟨q.vals, by simp only [Value.cells] at h2; rw [← h2], q.cells_VRs E, q.vals_ones⟩
end
end Go.Proofs.Ytmfgldfldejgcaa
