/- For the rows of the statements: what is known of what comes in; from a contract of the engine to the row. -/
import Derived.Test.YtilmfdlonpjjiaaVTab
import Derived.Test.YtilmfdlonpjjiaaRows
import Derived.ProofKit
import Derived.OpenShut
import Derived.ShutString
import Derived.ChangeOld
import Derived.Below
import Derived.Lib.SmallJoins
import Derived.Deep.Slices
import Derived.ChangeMaps5
import Derived.Laws.Strings
namespace Go.Proofs.Ytilmfdlonpjjiaa
set_option linter.unusedVariables false
set_option linter.unusedSimpArgs false
set_option linter.unusedSectionVars false
open Go.ChangeShapes Go.WideShapes Go.ChangeAt Go.RowKit Go.Joins
set_option linter.constructorNameAsVariable false
set_option maxRecDepth 10000

theorem rowOwn : ownKnob Try.prog.godebug = none := by kernel_rfl
theorem rowLaid : laidOutB Try.prog = true := by kernel_rfl

theorem calls_of_fn {P : Program} {G : Globs} {g : FuncId} {fn : Func} {code : Code} (hf : P.funcs[g]? = some fn) (hname : (fn.name == "runtime.NumGoroutine") = false) (hb : fn.body = some code) {dargs : List VV} (h : FnV P G g dargs (bI true))
    {w : World} {args : Array Value} (hG : ∀ g es, G g = some es → VR (E0 w (fun _ => True)) (.dp es 0) (.pointer (some ⟨g, 0, none⟩))) (ha : VRs (E0 w (fun _ => True)) dargs args.toList) :
    Calls P g args w fun e w' => e = .returned (.bool true) ∧ Below w.heap.size w w' := by
  have h1 := h w (fun _ => True) args hG ha
  have hent : (callFunc g args).run P w = .ok (.enter g args) w := by
    have h1 : fn.name ≠ "runtime.NumGoroutine" := by simpa using hname
    simp [callFunc, hf, h1, hb]
  unfold FGoes at h1
  rw [hent] at h1
  refine Calls.mono h1 fun e w' ⟨u, he, hu, hbel⟩ => ⟨?_, hbel⟩
  simp only [bI, VR] at hu
  rw [he, hu]

/-- What is known of a number that came in. -/
def I64 (n : Int) : Prop := -9223372036854775808 ≤ n ∧ n ≤ 9223372036854775807
theorem wrap_i64 {x : Int} (h1 : -9223372036854775808 ≤ x) (h2 : x ≤ 9223372036854775807) : IntKind.i64.wrap x = x := by
  simp only [IntKind.wrap, IntKind.bits, IntKind.signed]
  simp
  omega
theorem ws_i64 {x : Int} (h1 : -9223372036854775808 ≤ x) (h2 : x ≤ 9223372036854775807) : wS .i64 x = x := (wS_eq _ _).trans (wrap_i64 h1 h2)
theorem ws_u64 (x : Int) : wS .u64 x = x % 18446744073709551616 := by
  rw [wS_eq]
  simp only [IntKind.wrap, IntKind.bits, IntKind.signed]
  simp
theorem ws_u64n {x : Int} (h1 : 0 ≤ x) (h2 : x < 18446744073709551616) : wS .u64 x = x := by rw [ws_u64]; omega
theorem ws_u8 (x : Int) : wS .u8 x = x % 256 := by
  rw [wS_eq]
  simp only [IntKind.wrap, IntKind.bits, IntKind.signed]
  simp
theorem conv_nI {ren : List (Nat × Option Nat)} {lkF : Nat → Option (List VV)} {k : IntKind} {x y : Int} (h : x = y) : Conv ren lkF (.v (.int k x)) (nI k y) := by subst h; exact .same rfl
theorem conv_eq {ren : List (Nat × Option Nat)} {lkF : Nat → Option (List VV)} {x y : VV} (h : x = y) (hn : noH y = true) : Conv ren lkF x y := by subst h; exact .same hn
theorem convs_eq {ren : List (Nat × Option Nat)} {lkF : Nat → Option (List VV)} {cs cs' : List VV} (h : cs = cs') (hn : noHs cs' = true) : Convs ren lkF cs cs' := by subst h; exact .same hn
theorem bv_toNat_ofNat {w x : Nat} (h : x < 2 ^ w) : (BitVec.ofInt w (x : Int)).toNat = x := by
  rw [BitVec.toNat_ofInt]
  have : ((x : Int) % (2 ^ w : Nat)).toNat = x := by
    rw [Int.emod_eq_of_lt (by omega) (by exact_mod_cast h)]
    rfl
  exact this
theorem bitS_and {k : IntKind} {x y : Nat} (hx : x < 2 ^ k.bits) (hy : y < 2 ^ k.bits) : bitS .and k x y = k.wrap ((x &&& y : Nat) : Int) := by
  simp only [bitS_eq, bitI, BitVec.toNat_and, bv_toNat_ofNat hx, bv_toNat_ofNat hy]
theorem bitS_or {k : IntKind} {x y : Nat} (hx : x < 2 ^ k.bits) (hy : y < 2 ^ k.bits) : bitS .or k x y = k.wrap ((x ||| y : Nat) : Int) := by
  simp only [bitS_eq, bitI, BitVec.toNat_or, bv_toNat_ofNat hx, bv_toNat_ofNat hy]
theorem bitS_xor {k : IntKind} {x y : Nat} (hx : x < 2 ^ k.bits) (hy : y < 2 ^ k.bits) : bitS .xor k x y = k.wrap ((x ^^^ y : Nat) : Int) := by
  simp only [bitS_eq, bitI, BitVec.toNat_xor, bv_toNat_ofNat hx, bv_toNat_ofNat hy]
theorem u64_wrap {x : Nat} (h : x < 2 ^ 64) : IntKind.u64.wrap (x : Int) = x := by rw [← wS_eq, ws_u64n (by omega) (by omega)]
theorem u64_and {x y : Nat} (hx : x < 2 ^ 64) (hy : y < 2 ^ 64) : bitS .and .u64 x y = ((x &&& y : Nat) : Int) := by
  rw [bitS_and (by simp only [IntKind.bits]; omega) (by simp only [IntKind.bits]; omega), u64_wrap (Nat.lt_of_le_of_lt Nat.and_le_left hx)]
theorem u64_or {x y : Nat} (hx : x < 2 ^ 64) (hy : y < 2 ^ 64) : bitS .or .u64 x y = ((x ||| y : Nat) : Int) := by
  rw [bitS_or (by simp only [IntKind.bits]; omega) (by simp only [IntKind.bits]; omega), u64_wrap (Nat.or_lt_two_pow hx hy)]
theorem u64_xor {x y : Nat} (hx : x < 2 ^ 64) (hy : y < 2 ^ 64) : bitS .xor .u64 x y = ((x ^^^ y : Nat) : Int) := by
  rw [bitS_xor (by simp only [IntKind.bits]; omega) (by simp only [IntKind.bits]; omega), u64_wrap (Nat.xor_lt_two_pow hx hy)]
theorem shl_val {k : IntKind} {x : Int} {n : Nat} (h : n ≤ k.bits) : wS k (x * 2 ^ min (n : Int).toNat k.bits) = k.wrap (x * ((2 ^ n : Nat) : Int)) := by
  have h1 : min (n : Int).toNat k.bits = n := by omega
  rw [h1, wS_eq]
  push_cast
  rfl
theorem shr_val {k : IntKind} {x n : Nat} (h : n ≤ k.bits) : (x : Int).fdiv (2 ^ min (n : Int).toNat k.bits) = ((x / 2 ^ n : Nat) : Int) := by
  have h1 : min (n : Int).toNat k.bits = n := by omega
  rw [h1, Int.fdiv_eq_ediv_of_nonneg _ (Int.pow_nonneg (by omega))]
  push_cast
  rfl
theorem shl_one {n : Nat} (h : n < 62) : wS .i64 (1 * 2 ^ min (n : Int).toNat IntKind.i64.bits) = ((2 ^ n : Nat) : Int) := by
  rw [shl_val (by simp only [IntKind.bits]; omega), Int.one_mul]
  have h2 : 2 ^ n < 2 ^ 62 := Nat.pow_lt_pow_right (by omega) h
  generalize 2 ^ n = p at *
  rw [wrap_i64 (by omega) (by omega)]
/-- An array of words that came in. -/
def words (l : List Nat) : List VV := l.map fun (x : Nat) => nI .u64 x
theorem words_noHs (l : List Nat) : noHs (words l) = true := noHs_map (fun _ => rfl) l
theorem words_VRs (E : Env) : ∀ l : List Nat, VRs E (words l) (l.map fun (x : Nat) => Value.int .u64 x)
  | [] => by simp [words, VRs]
  | x :: l => VRs.cons rfl (words_VRs E l)
theorem words_open {H : Type} {enc : TypeId × Value → H} {W : World} {base b0 : Nat} {r : Reach} {spare : Nat → Bool} {held : Bool} {v : Value} {d : DataW H} {p : List MemPlace} {n : Nat} {t e : TypeId} (ht : Try.prog.underlying t = some (.array n e)) (he : Try.prog.underlying e = some (.int .u64)) (hc : Try.prog.cellsOf e = 1) (hct : Try.prog.cellsOf t = n)
    (hv : Value.okWide Try.prog W r b0 t v) (h : DataW.Trod enc Try.prog W base spare held t v d p) : ∃ l : List Nat, l.length = n ∧ (∀ x ∈ l, x < 2 ^ 64) ∧ ∀ E, VR E (.agg (words l)) v := by
  obtain ⟨fuel, hf⟩ := h
  unfold Value.okWide at hv
  rw [ht] at hv
  obtain ⟨cs, rfl, _⟩ := hv
  obtain ⟨xs, m, _, _, hl, hx, hi⟩ := DataW.trod_array ht hf
  simp only [Value.cells, hct] at hl hi
  have key : ∀ i, i < n → ∃ k : Nat, k < 2 ^ 64 ∧ cs.toList[i]? = some (.int .u64 k) := by
    intro i hin
    have h1 := hi i hin
    rw [hc, Nat.mul_one, List.getElem?_eq_getElem (show i < xs.length by omega)] at h1
    obtain ⟨k, e1, _, w1⟩ := DataW.trod_int he h1
    have b1 := bounds_u64 w1
    refine ⟨k.toNat, by omega, ?_⟩
    have h2 : (List.take 1 (List.drop i cs.toList))[0]? = some (.int .u64 k) := by rw [e1]; rfl
    rw [List.getElem?_take_of_lt (by omega), List.getElem?_drop] at h2
    have h3 : ((k.toNat : Nat) : Int) = k := by omega
    rw [h3]; exact h2
  refine ⟨cs.toList.map fun v => match v with | .int _ k => k.toNat | _ => 0, by simpa using hl, ?_, fun E => ?_⟩
  · intro x hx'
    obtain ⟨v, hv, rfl⟩ := List.mem_map.1 hx'
    obtain ⟨i, hin, rfl⟩ := List.mem_iff_getElem.1 hv
    obtain ⟨k, hk, e1⟩ := key i (by omega)
    rw [List.getElem?_eq_getElem hin] at e1
    have e1 := Option.some.inj e1
    rw [e1]
    exact hk
  · have h1 : cs.toList = (cs.toList.map fun v => match v with | .int _ k => k.toNat | _ => 0).map (fun (x : Nat) => Value.int .u64 x) := by
      refine List.ext_getElem (by simp) fun i h1 h2 => ?_
      obtain ⟨k, hk, e1⟩ := key i (by omega)
      rw [List.getElem?_eq_getElem h1] at e1
      have e1 := Option.some.inj e1
      simp only [List.getElem_map, e1]
      rfl
    simp only [VR]
    refine ⟨_, ?_, words_VRs E _, ?_⟩
    · rw [← h1]
    · intro u hu
      simp only [List.mem_map] at hu
      obtain ⟨x, _, rfl⟩ := hu
      rfl
theorem inB_ok {i : Int} {n : Nat} (h0 : 0 ≤ i) (h1 : i < n) : inB i n = true := by simp [inB, h0, h1]
theorem words_ix {l : List Nat} {j i : Nat} (h : j = i) (hi : i < l.length) : (words l)[j]? = some (nI .u64 ((l.getD i 0 : Nat) : Int)) := by
  subst h
  simp [words, List.getElem?_eq_getElem hi, List.getD]
theorem words_length (l : List Nat) : (words l).length = l.length := by simp [words]
theorem words_set (l : List Nat) (i x : Nat) : (words l).set i (nI .u64 (x : Int)) = words (l.set i x) := by
  simp [words, List.map_set]
theorem beq1_t {m : Nat} (h : ((m : Int) == 1) = true) : m = 1 := by have := eq_of_beq h; omega
theorem beq1_f {m : Nat} (h : ((m : Int) == 1) = false) : ¬ m = 1 := fun e => by subst e; cases h
theorem beq_lit (m c : Nat) : ((m : Int) == (c : Int)) = decide (m = c) := by
  by_cases h : m = c
  · subst h; simp
  · rw [decide_eq_false h]
    have : ¬ (m : Int) = c := by omega
    simpa using this
theorem bne_lit (m c : Nat) : ((m : Int) != (c : Int)) = !decide (m = c) := by rw [bne, beq_lit]
theorem u64_and1 {x : Nat} (h : x < 2 ^ 64) : bitS .and .u64 (x : Int) 1 = ((x % 2 : Nat) : Int) := by
  have := u64_and (x := x) (y := 1) h (by omega)
  rw [Nat.and_one_is_mod] at this
  exact this
theorem getD_lt {l : List Nat} {b : Nat} (hb : 0 < b) (h : ∀ x ∈ l, x < b) (i : Nat) : l.getD i 0 < b := by
  by_cases hi : i < l.length
  · simp [List.getD, List.getElem?_eq_getElem hi]; exact h _ (List.getElem_mem hi)
  · simp [List.getD, List.getElem?_eq_none (by omega : l.length ≤ i)]; exact hb
theorem load_agg {t : TypeId} {r : TR} {cs : List VV} (hr : Γ t = some r) (ha : r.d.agg = true) (hs : cs.length = r.size) : vload Γ t cs 0 = some (.agg cs) := by
  unfold vload
  rw [hr]
  have hw : (Nat.beq 0 0 && Nat.beq r.size cs.length) = true := by rw [hs]; simp
  simp only [ha, hw]
theorem vslice_ds {t e : TypeId} {r : TR} (ht : sliceOf Γ t = some (e, r)) {f : Bool} {n : Nat} {es : List VV} {lo hi : Option VV} {l h : Nat} (b1 : vb lo 0 = some l) (b2 : vb hi n = some h) (c1 : l ≤ h) (c2 : h ≤ n) :
    vslice Γ t (.ds f n es) lo hi none = some (.ds (f && decide (h = n)) (h - l) ((es.drop (l * r.size)).take ((h - l) * r.size))) := by
  unfold vslice
  rw [ht]
  simp only [b1, b2, show vb none n = some n from rfl]
  rw [if_pos ⟨c1, c2, Nat.le_refl _, by simp⟩]
  rfl
theorem vslice_str {t : TypeId} {s : ByteArray} {lo hi : Option VV} {l h : Nat} (ht : tdOf Γ t = some .str) (b1 : vb lo 0 = some l) (b2 : vb hi s.size = some h) (c1 : l ≤ h) (c2 : h ≤ s.size) : vslice Γ t (.v (.string s)) lo hi none = some (.v (.string (s.extract l h))) := by
  unfold vslice
  simp only [ht, b1, b2]
  rw [if_pos ⟨c1, c2⟩]
theorem min_int (x y : Nat) : (if (y : Int) < (x : Int) then (y : Int) else (x : Int)) = ((min x y : Nat) : Int) := by
  split <;> omega
theorem max_int (x y : Nat) : (if (y : Int) > (x : Int) then (y : Int) else (x : Int)) = ((max x y : Nat) : Int) := by
  split <;> omega
theorem vpure_slice {t : TypeId} {x : Operand} {lo hi mx : Option Operand} {ev : Operand → VV} {v : VV} (h : vslice Γ t (ev x) (lo.map ev) (hi.map ev) (mx.map ev) = some v) : vpure Γ (.slice t x lo hi mx) ev = some v := h
theorem noHs_app {cs ds : List VV} (h1 : noHs cs = true) (h2 : noHs ds = true) : noHs (cs ++ ds) = true := by rw [noHs_append, h1, h2]; rfl
theorem vb_nat {k : IntKind} {i d : Nat} : vb (some (nI k (i : Int))) d = some i := by
  simp only [vb, nI]
  rw [if_pos (by omega)]
  simp
/-- A slice of bytes that is only read. -/
def dsB (f : Bool) (l : List UInt8) : VV := .ds f l.length (l.map byV)
theorem byV_noHs (l : List UInt8) : noHs (l.map byV) = true := noHs_map (fun _ => rfl) l
theorem dsB_noH (f : Bool) (l : List UInt8) : noH (dsB f l) = true := byV_noHs l
theorem dsBs_noHs (f : Bool) (l : List (List UInt8)) : noHs (l.map (dsB f)) = true := noHs_map (fun _ => dsB_noH f _) l
theorem ba_list (l : List UInt8) : (ByteArray.mk l.toArray).toList = l := by rw [ByteArray.toList_eq]
theorem str_eq (l m : List UInt8) : hid ((ByteArray.mk l.toArray).toList == (ByteArray.mk m.toArray).toList) = decide (l = m) := by
  rw [hid_eq, ba_list, ba_list]
  by_cases h : l = m
  · rw [decide_eq_true h, h]; simp
  · rw [decide_eq_false h]; simpa using h
theorem dsB_ix {f : Bool} {l : List (List UInt8)} {j i : Nat} (h : j = i) (hi : i < l.length) : (l.map (dsB f))[j]? = some (dsB f l[i]) := by
  subst h
  simp [List.getElem?_eq_getElem hi]
theorem byV_ix {l : List UInt8} {j i : Nat} (h : j = i) (hi : i < l.length) : (l.map byV)[j]? = some (nI .u8 ((l[i].toNat : Nat) : Int)) := by
  subst h
  simp [List.getElem?_eq_getElem hi, byV, nI]
theorem vslice_map {α : Type} {g : α → VV} {t e : TypeId} {r : TR} (ht : sliceOf Γ t = some (e, r)) (hr : r.size = 1) {f : Bool} {n : Nat} {bs : List α} {lo hi : Option VV} {l h : Nat} (hn : n = bs.length) (b1 : vb lo 0 = some l) (b2 : vb hi n = some h) (c1 : l ≤ h) (c2 : h ≤ n) :
    vslice Γ t (.ds f n (bs.map g)) lo hi none = some (.ds (f && decide (h = n)) ((bs.drop l).take (h - l)).length (((bs.drop l).take (h - l)).map g)) := by
  subst hn
  rw [vslice_ds ht b1 b2 c1 c2, hr, Nat.mul_one, Nat.mul_one, ← List.map_drop, ← List.map_take]
  rw [show ((bs.drop l).take (h - l)).length = h - l by simp; omega]
theorem vslice_by {t e : TypeId} {r : TR} (ht : sliceOf Γ t = some (e, r)) (hr : r.size = 1) {f : Bool} {n : Nat} {bs : List UInt8} {lo hi : Option VV} {l h : Nat} (hn : n = bs.length) (b1 : vb lo 0 = some l) (b2 : vb hi n = some h) (c1 : l ≤ h) (c2 : h ≤ n) :
    vslice Γ t (.ds f n (bs.map byV)) lo hi none = some (dsB (f && decide (h = n)) ((bs.drop l).take (h - l))) := by
  subst hn
  rw [vslice_ds ht b1 b2 c1 c2, hr, Nat.mul_one, Nat.mul_one, ← List.map_drop, ← List.map_take]
  unfold dsB
  rw [show ((bs.drop l).take (h - l)).length = h - l by simp; omega]
theorem view_whole {lkf : Nat → Option (List VV)} {h n wd : Nat} {cs : List VV} (h1 : lkf h = some cs) (h2 : n * wd = cs.length) : view lkf (.sl h 0 n wd) = some ([h], n, cs) := by
  have hw : (Nat.beq 0 0 && Nat.beq (n * wd) cs.length) = true := by rw [h2]; simp
  unfold view
  simp only [h1, hw]
/-- A name for a value, that no machine looks through ('generalize' is undone in the finished proof). -/
theorem gen_ex {α : Sort _} (x : α) {C : Prop} (h : ∀ y, y = x → C) : C := h x rfl
theorem splice_set {cs : List VV} {i : Nat} {x : VV} (h : i < cs.length) : splice cs i [x] = cs.set i x := by
  rw [List.set_eq_take_append_cons_drop, if_pos h]
  rfl
theorem shl1_u64 {n : Nat} (h : n < 64) : wS .u64 (1 * 2 ^ min (n : Int).toNat IntKind.u64.bits) = ((2 ^ n : Nat) : Int) := by
  rw [shl_val (by simp only [IntKind.bits]; omega), Int.one_mul]
  exact u64_wrap (Nat.pow_lt_pow_right (by omega) h)
theorem splice_words {l : List Nat} {j i x : Nat} (h : j = i) (hi : i < l.length) : (words l).set j (VV.v (.int .u64 (x : Int))) = words (l.set i x) := by
  subst h
  exact words_set l j x
theorem splice_all {cs new : List VV} (h : new.length = cs.length) : splice cs 0 new = new := by
  unfold splice
  rw [List.take_zero, List.drop_eq_nil_of_le (by omega)]
  simp
theorem mapO_noH {k : Nat} {lkf : Nat → Option (List VV)} (ih : ∀ v, noH v = true → deepV k lkf v = some v) : ∀ cs : List VV, noHs cs = true → mapO (deepV k lkf) cs = some cs
  | [], _ => rfl
  | c :: cs, h => by
    simp only [noHs, Bool.and_eq_true] at h
    simp only [mapO, ih c h.1, mapO_noH ih cs h.2]
theorem deepV_noH {lkf : Nat → Option (List VV)} : ∀ (k : Nat) (v : VV), noH v = true → deepV k lkf v = some v
  | 0, v, h => by unfold deepV; rw [h]
  | k + 1, v, h => by
    unfold deepV
    cases v with
    | sl h' off n wd => simp [noH] at h
    | agg cs =>
      have h' : noHs cs = true := h
      simp only [h']
    | tup cs => simp only [mapO_noH (fun v hv => deepV_noH k v hv) cs h]
    | _ => simp only [h]
theorem ends_at {rs : List ResultVar} {σ : VS} {lkf : Nat → Option (List VV)} {d : VV} (h1 : vres Γ rs σ = some d) (h2 : noH d = true) : ∃ v, vres Γ rs σ = some v ∧ deepV 3 lkf v = some d := ⟨d, h1, deepV_noH _ _ h2⟩
theorem deep_row {k : Nat} {lkf : Nat → Option (List VV)} {h n wd : Nat} {cs : List VV} (h1 : lkf h = some cs) (h2 : cs.length = n * wd) (h3 : noHs cs = true) : deepV (k + 1) lkf (.sl h 0 n wd) = some (.ds false n cs) := by
  have hw : (Nat.beq 0 0 && Nat.beq (n * wd) cs.length) = true := by rw [h2]; simp
  unfold deepV
  simp only [h1, part?, hw, h3]
theorem deep_tup {k : Nat} {lkf : Nat → Option (List VV)} {cs ds : List VV} (h : mapO (deepV k lkf) cs = some ds) : deepV (k + 1) lkf (.tup cs) = some (.tup ds) := by
  unfold deepV
  simp only [h]
theorem deep_agg {k : Nat} {lkf : Nat → Option (List VV)} {cs ds : List VV} (h0 : noHs cs = false) (h : mapO (deepV k lkf) cs = some ds) : deepV (k + 1) lkf (.agg cs) = some (.agg ds) := by
  unfold deepV
  simp only [h0, h]
theorem mapO_cons {f : VV → Option VV} {c d : VV} {cs ds : List VV} (h1 : f c = some d) (h2 : mapO f cs = some ds) : mapO f (c :: cs) = some (d :: ds) := by
  simp only [mapO, h1, h2]
theorem mapO_nil {f : VV → Option VV} : mapO f [] = some [] := rfl
theorem vres_two {rs : List ResultVar} {r1 r2 : ResultVar} {σ : VS} {v1 v2 : VV} (h : rs = [r1, r2]) (h1 : vresOne Γ σ r1 = some v1) (h2 : vresOne Γ σ r2 = some v2) : vres Γ rs σ = some (.tup [v1, v2]) := by
  subst h; simp only [vres, vresL, h1, h2]
theorem vres_one {rs : List ResultVar} {r1 : ResultVar} {σ : VS} {v1 : VV} (h : rs = [r1]) (h1 : vresOne Γ σ r1 = some v1) : vres Γ rs σ = some v1 := by
  subst h; simp only [vres, vresL, h1]
theorem vres_cell {σ : VS} {a : Tmp} {t : TypeId} {h off : Nat} {cs : List VV} {v : VV} (h1 : lkt σ.T a = some (.ptr h off)) (h2 : lk σ.H h = some cs) (h3 : vload Γ t cs off = some v) : vresOne Γ σ (.cell a t) = some v := by
  simp only [vresOne, h1, h2, h3]
/-- A raw thing. -/
structure RawD where
  k : Int
  a : Int
  b : Int
  s : ByteArray
def RawD.ok (r : RawD) : Prop := I64 r.k ∧ I64 r.a ∧ I64 r.b ∧ r.s.size ≤ maxLen
def RawD.cells (r : RawD) : List VV := [nI .i64 r.k, nI .i64 r.a, nI .i64 r.b, .v (.string r.s)]
def RawD.v (r : RawD) : VV := .agg r.cells
def RawD.vals (r : RawD) : List Value := [.int .i64 r.k, .int .i64 r.a, .int .i64 r.b, .string r.s]
def rawsC (l : List RawD) : List VV := l.flatMap RawD.cells
def rawsV (l : List RawD) : VV := .ds false l.length (rawsC l)
theorem RawD.cells_VRs (E : Env) (r : RawD) : VRs E r.cells r.vals := by simp [RawD.cells, RawD.vals, VRs, VR, nI]
theorem RawD.vals_ones (r : RawD) : ones r.vals := by
  intro u hu
  simp [RawD.vals] at hu
  rcases hu with rfl | rfl | rfl | rfl <;> rfl
theorem rawsC_length (l : List RawD) : (rawsC l).length = l.length * 4 := by
  unfold rawsC
  induction l with
  | nil => rfl
  | cons r l ih => simp [List.flatMap_cons, RawD.cells, ih]; omega
theorem rawsC_noHs (l : List RawD) : noHs (rawsC l) = true := noHs_flatMap (fun r => by simp [RawD.cells, noHs, noH, nI]) l

theorem rawsC_drop : ∀ (k : Nat) (l : List RawD), (rawsC l).drop (k * 4) = rawsC (l.drop k)
  | 0, l => by simp
  | k + 1, [] => by simp [rawsC]
  | k + 1, r :: l => by
    have : (k + 1) * 4 = k * 4 + 4 := by omega
    rw [this]
    simp only [rawsC, List.flatMap_cons, List.drop_succ_cons]
    rw [Nat.add_comm, ← List.drop_drop]
    rw [show (r.cells ++ List.flatMap RawD.cells l).drop 4 = rawsC l from List.drop_left' rfl]
    exact rawsC_drop k l
theorem rawsC_take : ∀ (k : Nat) (l : List RawD), (rawsC l).take (k * 4) = rawsC (l.take k)
  | 0, l => by simp [rawsC]
  | k + 1, [] => by simp [rawsC]
  | k + 1, r :: l => by
    have : (k + 1) * 4 = r.cells.length + k * 4 := by simp [RawD.cells]; omega
    rw [this]
    simp only [rawsC, List.flatMap_cons, List.take_succ_cons]
    rw [List.take_length_add_append]
    have := rawsC_take k l
    unfold rawsC at this
    rw [this]
theorem vslice_raws {t e : TypeId} {r : TR} (ht : sliceOf Γ t = some (e, r)) (hr : r.size = 4) {f : Bool} {n : Nat} {bs : List RawD} {lo hi : Option VV} {l h : Nat} (hn : n = bs.length) (b1 : vb lo 0 = some l) (b2 : vb hi n = some h) (c1 : l ≤ h) (c2 : h ≤ n) :
    vslice Γ t (.ds f n (rawsC bs)) lo hi none = some (.ds (f && decide (h = n)) ((bs.drop l).take (h - l)).length (rawsC ((bs.drop l).take (h - l)))) := by
  subst hn
  rw [vslice_ds ht b1 b2 c1 c2, hr, rawsC_drop, rawsC_take]
  rw [show ((bs.drop l).take (h - l)).length = h - l by simp; omega]
theorem raw_load {t : TypeId} {r : TR} {l : List RawD} {i j : Nat} (ht : Γ t = some r) (ha : r.d.agg = true) (hr : r.size = 4) (hj : j = i * 4) (hi : i < l.length) : vload Γ t (rawsC l) j = some l[i].v := by
  subst hj
  have h1 : ((rawsC l).drop (i * 4)).take 4 = l[i].cells := by
    have h2 := rawsC_take 1 (l.drop i)
    rw [rawsC_drop]
    refine h2.trans ?_
    rw [List.drop_eq_getElem_cons hi]
    exact List.append_nil _
  have hl : i * 4 + 4 ≤ (rawsC l).length := by rw [rawsC_length]; omega
  unfold vload
  rw [ht]
  simp only [ha, hr]
  split
  · rename_i hw
    have := whole_of hw
    rw [← this.1] at h1
    rw [h1]; rfl
  · rw [show Nat.ble (i * 4 + 4) (rawsC l).length = true from by simpa using hl]
    simp only []
    rw [h1]; rfl
theorem raw_cells {H : Type} {enc : TypeId × Value → H} {w : World} {base : Nat} {spare : Nat → Bool} {held : Bool} {fuel : Nat} {cs : List Value} {x : DataW H × List MemPlace} (h : DataW.trod enc Try.prog w base spare held fuel 23 cs = some x) :
    ∃ r : RawD, r.ok ∧ cs = r.vals := by
  have hc : Try.prog.cellsOf 23 = 4 := by kernel_rfl
  have hi : Try.prog.cellsOf 3 = 1 := by kernel_rfl
  have hs : Try.prog.cellsOf 9 = 1 := by kernel_rfl
  cases fuel with
  | zero => simp [DataW.trod] at h
  | succ fuel =>
    unfold DataW.trod at h
    rw [Try.underlying23] at h
    simp only [hc] at h
    split at h
    · rename_i hl
      match cs, hl with
      | [c0, c1, c2, c3], _ =>
        obtain ⟨xs, h1, _⟩ := Option.map_eq_some_iff.1 h
        simp only [List.mapM_cons, List.mapM_nil, Option.bind_eq_bind, Option.pure_def, hi, hs, List.drop_zero, List.drop_succ_cons, List.take_succ_cons, List.take_zero] at h1
        obtain ⟨d0, g0, h1⟩ := Option.bind_eq_some_iff.1 h1
        obtain ⟨l1, h1, _⟩ := Option.bind_eq_some_iff.1 h1
        obtain ⟨d1, g1, h1⟩ := Option.bind_eq_some_iff.1 h1
        obtain ⟨l2, h1, _⟩ := Option.bind_eq_some_iff.1 h1
        obtain ⟨d2, g2, h1⟩ := Option.bind_eq_some_iff.1 h1
        obtain ⟨l3, h1, _⟩ := Option.bind_eq_some_iff.1 h1
        obtain ⟨d3, g3, _⟩ := Option.bind_eq_some_iff.1 h1
        obtain ⟨k, e0, _, w0⟩ := DataW.trod_int Try.underlying3 g0
        obtain ⟨a, e1, _, w1⟩ := DataW.trod_int Try.underlying3 g1
        obtain ⟨b, e2, _, w2⟩ := DataW.trod_int Try.underlying3 g2
        obtain ⟨s, e3, _, w3⟩ := DataW.trod_string Try.underlying9 g3
        simp only [List.cons.injEq, and_true] at e0 e1 e2 e3
        subst e0 e1 e2 e3
        exact ⟨⟨k, a, b, s⟩, ⟨bounds_i64 w0, bounds_i64 w1, bounds_i64 w2, w3⟩, rfl⟩
    · cases h
section
variable {H : Type} {enc : TypeId × Value → H} {r : Reach} {W : World} {base b0 : Nat} {spare : Nat → Bool} {held : Bool} {v : Value} {d : DataW H} {p : List MemPlace}
theorem raw_open (hv : Value.okWide Try.prog W r b0 23 v) (h : DataW.Trod enc Try.prog W base spare held 23 v d p) : ∃ q : RawD, q.ok ∧ ∀ E, VR E q.v v := by
  obtain ⟨fuel, hf⟩ := h
  obtain ⟨q, h1, h2⟩ := raw_cells hf
  refine ⟨q, h1, fun E => ?_⟩
  unfold Value.okWide at hv
  rw [Try.underlying23] at hv
  obtain ⟨cs, rfl, _⟩ := hv
  simp only [RawD.v, VR]
  exact ⟨q.vals, by simp only [Value.cells] at h2; rw [← h2], q.cells_VRs E, q.vals_ones⟩
end
end Go.Proofs.Ytilmfdlonpjjiaa
