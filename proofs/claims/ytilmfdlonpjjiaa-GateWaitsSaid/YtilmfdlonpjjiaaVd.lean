/- The engine, part 4: code, functions, tables, loops. -/
import Derived.Test.YtilmfdlonpjjiaaVc
import Derived.Scope
namespace Go.Proofs.Ytilmfdlonpjjiaa
set_option linter.unusedVariables false
set_option linter.unusedSimpArgs false
set_option linter.unusedSectionVars false
open Go

def VNoGoto (Q : Exit → VS → Prop) : Exit → VS → Prop
  | .goto _, _ => False
  | e, σ => Q e σ
section
variable (P : Program) (Γ : Tab) (G : Globs) (K : Nat)
/-- What is to be shown of a piece of code; the recursion is bare. -/
abbrev WT := (Exit → VS → Prop) → VS → Prop
def wSkip : WT := fun Q σ => Q .normal σ
noncomputable def wRegion (_ : Nat) (ops : Array Oper) (draw : Bool) : WT := fun Q σ => @VS.rec (fun _ => Prop) (fun T sz H n => regv P Γ G ops ops.toList T sz H n [] fun es σ' => condP draw (regOk ops es = true ∧ Q .normal σ') (Q .normal σ')) σ
def wSeq (_ _ : Code) (a b : WT) : WT := fun Q σ => a (VThen (b Q) Q) σ
noncomputable def wCond (c : Operand) (_ _ : Code) (x y : WT) : WT := fun Q σ => match evalV G σ.T c with
    | .v (.bool t) => condP t (x Q σ) (y Q σ)
    | _ => False
def wBlock (id : Nat) (_ : Code) (c : WT) : WT := fun Q σ => c (VBlock id Q) σ
def wLoop (c : Code) (_ : WT) : WT := fun Q σ => VLoop P G K c Q σ
def wRange (f : Operand) (ps : Array Tmp) (a b : Code) (_ _ : WT) : WT := fun Q σ => VWP P G K (.rangeFunc f ps a b) Q σ
def wExit (id : Nat) : WT := fun Q σ => Q (.exit id) σ
def wScope (_ : Code) (c : WT) : WT := fun Q σ => c (VNoGoto Q) σ
def wLabel (_ : Nat) : WT := fun Q σ => Q .normal σ
def wGoto (l : Nat) : WT := fun Q σ => VWP P G K (.goto l) Q σ
def wRet : WT := fun Q σ => Q .ret σ
def wRefuse (s : String) : WT := fun Q σ => VWP P G K (.refuse s) Q σ
noncomputable def wpv (c : Code) : WT := @Code.rec (fun _ => WT) wSkip (wRegion P Γ G) wSeq (wCond G) wBlock (wLoop P G K) (wRange P G K) wExit wScope wLabel (wGoto P G K) wRet (wRefuse P G K) c
end
section
variable {P : Program} {Γ : Tab} {G : Globs} {K : Nat}
theorem vthen_mono {A B : VS → Prop} {Q : Exit → VS → Prop} (h : ∀ σ, A σ → B σ) : ∀ e σ, VThen A Q e σ → VThen B Q e σ := fun e σ k => by cases e <;> first | exact h _ k | exact k
theorem wpv_ok (hΓ : TabOk P Γ) (hm : P.follows .mixedOrders = true) : ∀ (x : Code) (Q : Exit → VS → Prop) (σ : VS), wpv P Γ G K x Q σ → VWP P G K x Q σ
  | .skip, Q, σ, h => vwp_skip h
  | .label _, Q, σ, h => vwp_label h
  | .seq a b, Q, σ, h => vwp_seq (vwp_mono (wpv_ok hΓ hm a _ σ h) (vthen_mono fun σ' k => wpv_ok hΓ hm b Q σ' k))
  | .cond c x y, Q, σ, h => by
    refine ⟨fun cf a hs => ?_⟩
    replace h : wCond G c x y (wpv P Γ G K x) (wpv P Γ G K y) Q σ := h
    unfold wCond at h
    split at h
    · rename_i t ht
      have hv := evalV_ok hs.tmps hs.glob c
      rw [ht] at hv; simp only [VR] at hv
      cases t with
      | true => exact Go.wp_cond_true hv ((wpv_ok hΓ hm x Q σ h).out cf a hs)
      | false => exact Go.wp_cond_false hv ((wpv_ok hΓ hm y Q σ h).out cf a hs)
    · exact h.elim
  | .block id c, Q, σ, h => vwp_block (wpv_ok hΓ hm c _ σ h)
  | .exit id, Q, σ, h => vwp_exit h
  | .ret, Q, σ, h => vwp_ret h
  | .loop c, Q, σ, h => vwp_loop h
  | .scope c, Q, σ, h => by
    refine ⟨fun cf a hs => ?_⟩
    refine wp_scope_straight (Go.wp_mono ((wpv_ok hΓ hm c _ σ h).out cf a hs) fun e a' w' ⟨c', σ', h1, h2, h3, h4⟩ => ?_)
    cases e with
    | goto l => exact h2.elim
    | normal => exact ⟨c', σ', h1, h2, h3, h4⟩
    | exit id => exact ⟨c', σ', h1, h2, h3, h4⟩
    | ret => exact ⟨c', σ', h1, h2, h3, h4⟩
    | panic ch => exact ⟨c', σ', h1, h2, h3, h4⟩
    | outgrown => exact ⟨c', σ', h1, h2, h3, h4⟩
  | .region id ops draw, Q, σ, h => by
    replace h : wRegion P Γ G id ops draw Q σ := h
    unfold wRegion at h
    cases draw with
    | true => exact vwp_region_any hΓ hm h
    | false =>
      exact vwp_region_seq hΓ h
  | .goto l, Q, σ, h => h
  | .rangeFunc _ _ _ _, Q, σ, h => h
  | .refuse _, Q, σ, h => h

/-- What the results are. -/
def vresOne (Γ : Tab) (σ : VS) : ResultVar → Option VV
  | .tmp t => lkt σ.T t
  | .cell a t => match lkt σ.T a with
    | some (.ptr h off) => match lk σ.H h with
      | some cs => vload Γ t cs off
      | none => none
    | _ => none
def vresL (Γ : Tab) (σ : VS) : List ResultVar → Option (List VV)
  | [] => some []
  | r :: rs => match vresOne Γ σ r, vresL Γ σ rs with
    | some v, some vs => some (v :: vs)
    | _, _ => none
def vres (Γ : Tab) (rs : List ResultVar) (σ : VS) : Option VV :=
  match vresL Γ σ rs with
  | some [v] => some v
  | some vs => some (.tup vs)
  | none => none

theorem vresL_ok (hΓ : TabOk P Γ) {c : Cf} {σ : VS} {a : Act} (hs : St G c σ a) : ∀ (rs : List ResultVar) (vs : List VV), vresL Γ σ rs = some vs →
    ∃ us : List Value, (rs.mapM fun r => (match r with | .tmp t => pure (a.tmps.getD t undef) | .cell x t => do loadVar t (← asAddr (a.tmps.getD x undef)) : Sem Value)).run P c.w = .ok us c.w ∧ VRs c.env vs us
  | [], vs, h => by
    simp only [vresL] at h; cases h
    exact ⟨[], by simp, by simp [VRs]⟩
  | r :: rs, vs, h => by
    unfold vresL at h
    split at h
    · rename_i v vs' h1 h2
      cases h
      obtain ⟨us, g1, g2⟩ := vresL_ok hΓ hs rs vs' h2
      have key : ∃ u, (match r with | .tmp t => pure (a.tmps.getD t undef) | .cell x t => do loadVar t (← asAddr (a.tmps.getD x undef)) : Sem Value).run P c.w = .ok u c.w ∧ VR c.env v u := by
        cases r with
        | tmp t =>
          simp only [vresOne] at h1
          obtain ⟨u, k1, k2⟩ := hs.tmps t v h1
          exact ⟨u, by simp [k1], k2⟩
        | cell x t =>
          simp only [vresOne] at h1
          split at h1
          · rename_i h off hp
            split at h1
            · rename_i cs hl
              obtain ⟨u0, k0, hv⟩ := hs.tmps x _ hp
              simp only [VR] at hv
              obtain ⟨b, k1, rfl, hq⟩ := hv
              have k2 : a.tmps.getD x undef = .pointer (some ⟨b, off, none⟩) := by simp [k0]
              obtain ⟨ub, T, fr, q1, q2, q3, q4, q5, q6⟩ := blk_cells hs.heap (by rw [hs.look]; exact hl) k1 hq
              obtain ⟨u, p1, p2⟩ := vload_ok hΓ (E := c.env) (b := b) (base := 0) h1 q4 q5 (fun i u hu => by
                rw [List.getElem?_take] at hu
                split at hu
                · have := (q6 i u (by simpa using hu)).1
                  simpa [Env.cell, Cf.env] using this
                · cases hu)
              have p1' : (loadVar t ⟨b, off, none⟩).run P c.w = .ok u c.w := by simpa [Cf.env] using p1
              refine ⟨u, ?_, p2⟩
              simp only [k2, asAddr, Sem.run_bind, Sem.run_pure, Result.andThen_ok, p1']
            · cases h1
          · cases h1
      obtain ⟨u, k1, k2⟩ := key
      refine ⟨u :: us, ?_, VRs.cons k2 g2⟩
      rw [List.mapM_cons]
      simp only [Sem.run_bind, k1, Result.andThen_ok, g1, Sem.run_pure]
    · cases h
theorem vres_ok (hΓ : TabOk P Γ) {c : Cf} {σ : VS} {a : Act} (hs : St G c σ a) {fn : Func} {v : VV} (h : vres Γ fn.results.toList σ = some v) : ∃ u, (results fn a.tmps).run P c.w = .ok u c.w ∧ VR c.env v u := by
  unfold vres at h
  have base : ∀ vs, vresL Γ σ fn.results.toList = some vs → ∃ us : List Value, (results fn a.tmps).run P c.w = .ok (if h : us.toArray.size = 1 then us.toArray[0] else .tuple us.toArray) c.w ∧ VRs c.env vs us := by
    intro vs hv
    obtain ⟨us, g1, g2⟩ := vresL_ok hΓ hs _ vs hv
    refine ⟨us, ?_, g2⟩
    unfold results
    rw [Sem.run_bind, Array.mapM_eq_mapM_toList]
    simp only [Functor.map, Sem.run_bind]
    have : (List.mapM (fun r => (match r with | .tmp t => pure (a.tmps.getD t undef) | .cell x t => do loadVar t (← asAddr (a.tmps.getD x undef)) : Sem Value)) fn.results.toList).run P c.w = .ok us c.w := g1
    simp only [Sem.run_pure]
    refine Eq.trans (congrArg (fun r => Result.andThen r _) (?_ : Sem.run P ((List.mapM (fun r => (match r with | .tmp t => pure (a.tmps.getD t undef) | .cell x t => do loadVar t (← asAddr (a.tmps.getD x undef)) : Sem Value)) fn.results.toList) >>= fun l => pure l.toArray) c.w = .ok us.toArray c.w)) ?_
    · rw [Sem.run_bind, this]; rfl
    · rfl
  split at h
  · rename_i v' hv
    cases h
    obtain ⟨us, g1, g2⟩ := base _ hv
    simp only [VRs] at g2
    obtain ⟨u, us', rfl, k1, rfl⟩ := g2
    exact ⟨u, by rw [g1]; simp, k1⟩
  · rename_i vs hne hv
    cases h
    obtain ⟨us, g1, g2⟩ := base _ hv
    refine ⟨.tuple us.toArray, ?_, by simp only [VR]; exact ⟨us, rfl, g2⟩⟩
    have hl := g2.length
    have : us.toArray.size ≠ 1 := by
      intro e
      simp at e
      rw [e] at hl
      match vs, hl, hne with
      | [x], _, hne => exact hne x rfl
    rw [g1, dif_neg this]
  · cases h
end
variable {K : Nat}

def E0 (w : World) (A : Nat → Prop) : Env := ⟨w, fun _ => none, A⟩
/-- f, called with values that are only read, yields d; nothing that was there turns. -/
def FnV (P : Program) (G : Globs) (g : FuncId) (dargs : List VV) (d : VV) : Prop :=
  ∀ (w : World) (A : Nat → Prop) (args : Array Value), (∀ g es, G g = some es → VR (E0 w A) (.dp es 0) (.pointer (some ⟨g, 0, none⟩))) → VRs (E0 w A) dargs args.toList →
    FGoes P g args w fun u w' => VR (E0 w' (fun b => A b ∨ w.heap.size ≤ b)) d u ∧ RowKit.Below w.heap.size w w'

def mapO (f : VV → Option VV) : List VV → Option (List VV)
  | [] => some []
  | c :: cs => match f c, mapO f cs with
    | some d, some ds => some (d :: ds)
    | _, _ => none
/-- Cells from a place on. -/
def part? (cs : List VV) (off n : Nat) : Option (List VV) :=
  match Nat.beq off 0 && Nat.beq n cs.length with
  | true => some cs
  | false => (match Nat.ble (off + n) cs.length with
    | true => some ((cs.drop off).take n)
    | false => none)
theorem part?_some {cs xs : List VV} {off n : Nat} (h : part? cs off n = some xs) : xs = (cs.drop off).take n ∧ off + n ≤ cs.length := by
  unfold part? at h
  split at h
  · rename_i hw; cases h; exact whole_of hw
  · split at h
    · rename_i hw; cases h; exact ⟨rfl, Nat.le_of_ble_eq_true hw⟩
    · cases h
/-- A value whose slices are given up. -/
def deepV : Nat → (Nat → Option (List VV)) → VV → Option VV
  | 0, _, v => match noH v with | true => some v | false => none
  | k + 1, lkf, v => match v with
    | .sl h off n wd => match lkf h with
      | some cs => (match part? cs off (n * wd) with
        | some xs => (match noHs xs with
          | true => some (.ds false n xs)
          | false => match mapO (deepV k lkf) xs with
            | some es => some (.ds false n es)
            | none => none)
        | none => none)
      | none => none
    | .agg cs => match noHs cs with
      | true => some (.agg cs)
      | false => match mapO (deepV k lkf) cs with
        | some es => some (.agg es)
        | none => none
    | .tup cs => match mapO (deepV k lkf) cs with
        | some es => some (.tup es)
        | none => none
    | v => match noH v with | true => some v | false => none

theorem mapO_ok {E E' : Env} {f : VV → Option VV} (h : ∀ v d u, f v = some d → VR E v u → VR E' d u) : ∀ (cs ds : List VV) (us : List Value), mapO f cs = some ds → VRs E cs us → VRs E' ds us
  | [], ds, us, hm, hr => by simp only [mapO] at hm; cases hm; simpa [VRs] using hr
  | c :: cs, ds, us, hm, hr => by
    simp only [mapO] at hm
    split at hm
    · rename_i d ds' h1 h2
      cases hm
      simp only [VRs] at hr
      obtain ⟨u, us', rfl, h3, h4⟩ := hr
      exact VRs.cons (h c d u h1 h3) (mapO_ok h cs ds' us' h2 h4)
    · cases hm

def Cf.all (c : Cf) : Env := ⟨c.w, fun _ => none, fun b => c.A b ∨ c.Owned b⟩
theorem Cf.all_same (c : Cf) : c.env.Same c.all := ⟨fun b hb ha => ⟨.inl ha, hb, rfl⟩⟩
theorem deepV_ok {c : Cf} (H : HRel c) {lkf : Nat → Option (List VV)} (hlk : ∀ h cs, lkf h = some cs → c.look h = some cs) {E' : Env} (hS : c.env.Same E') (hw : E'.w = c.w) (hA : ∀ h cs b, lkf h = some cs → c.ρ h = some (some b) → E'.A b) : ∀ (k : Nat) (v d : VV) (u : Value), deepV k lkf v = some d → VR c.env v u → VR E' d u := by
  have base : ∀ (v d : VV) (u : Value), (match noH v with | true => some v | false => none) = some d → VR c.env v u → VR E' d u := by
    intro v d u h hr
    split at h
    · rename_i hn; cases h; exact VR.same hS _ hn hr
    · cases h
  intro k
  induction k with
  | zero => exact fun v d u h hr => base v d u h hr
  | succ k ih =>
    intro v d u h hr
    unfold deepV at h
    split at h
    · rename_i hd off n wd
      split at h
      · rename_i cs hl
        split at h
        · rename_i xs hxs
          obtain ⟨rfl, hle⟩ := part?_some hxs
          clear hxs
          have key : ∀ es, (∀ us, VRs c.env ((cs.drop off).take (n * wd)) us → VRs E' es us) → VR E' (.ds false n es) u := by
            intro es hes
            simp only [VR] at hr ⊢
            rcases hr with ⟨k1, rfl, rfl, ao, rfl⟩ | ⟨b, cap, k1, rfl, k2, _, uq, Tq, fq, hq, _⟩
            · refine .inl ⟨rfl, ?_, ao, rfl⟩
              have := hes [] (by simp [VRs])
              have hl := this.length
              simp at hl
              exact List.eq_nil_of_length_eq_zero hl.symm
            · obtain ⟨us, T, fr, q1, q2, q3, q4, q5, q6⟩ := blk_cells H (hlk _ _ hl) k1 ⟨uq, Tq, fq, hq⟩
              refine .inr ⟨b, off, cap, hA hd cs b hl k1, by rw [hw]; exact (Array.getElem?_eq_some_iff.1 q1).1, rfl, k2, by simp, (((us.toList.take cs.length)).drop off).take (n * wd), ?_, hes _ ((q4.drop _).take _), ones_take (ones_drop q5 _) _⟩
              intro i x hx
              rw [List.getElem?_take] at hx
              split at hx
              · rw [List.getElem?_drop, List.getElem?_take] at hx
                split at hx
                · simp only [Env.cell, hw]
                  exact (q6 _ _ (by simpa using hx)).1
                · cases hx
              · cases hx
          split at h
          · rename_i hn
            cases h
            exact key _ fun us hus => VRs.same hS _ hn hus
          · split at h
            · rename_i es hm
              cases h
              exact key _ fun us hus => mapO_ok (fun v d u => ih v d u) _ _ _ hm hus
            · cases h
        · cases h
      · cases h
    · rename_i cs
      simp only [VR] at hr
      obtain ⟨us, rfl, h1, h2⟩ := hr
      split at h
      · rename_i hn; cases h
        simp only [VR]; exact ⟨us, rfl, VRs.same hS _ hn h1, h2⟩
      · split at h
        · rename_i es hm; cases h
          simp only [VR]; exact ⟨us, rfl, mapO_ok (fun v d u => ih v d u) _ _ _ hm h1, h2⟩
        · cases h
    · rename_i cs
      simp only [VR] at hr
      obtain ⟨us, rfl, h1⟩ := hr
      split at h
      · rename_i es hm; cases h
        simp only [VR]; exact ⟨us, rfl, mapO_ok (fun v d u => ih v d u) _ _ _ hm h1⟩
      · cases h
    · exact base _ d u h hr

/-- The slots where a function begins. -/
def args0 : Nat → List VV → List (Nat × VV)
  | _, [] => []
  | i, v :: l => (i, v) :: args0 (i + 1) l
theorem args0_ok {E : Env} : ∀ (l : List VV) (i : Nat) (us : List Value) (tmps : Array Value), VRs E l us → (∀ (j : Nat) (u : Value), us[j]? = some u → tmps[i + j]? = some u) → ∀ t v, lkt (args0 i l) t = some v → ∃ u, tmps[t]? = some u ∧ VR E v u
  | [], i, us, tmps, _, _, t, v, h => by cases h
  | c :: l, i, us, tmps, hr, ht, t, v, h => by
    simp only [VRs] at hr
    obtain ⟨u, us', rfl, h1, h2⟩ := hr
    simp only [args0] at h
    rw [lkt_cons] at h
    split at h
    · rename_i e; subst e; cases h
      exact ⟨u, by simpa using ht 0 u (by simp), h1⟩
    · exact args0_ok l (i + 1) us' tmps h2 (fun j x hj => by have := ht (j + 1) x (by simpa using hj); rwa [show i + (j + 1) = i + 1 + j by omega] at this) t v h
/-- Where a function ends. -/
def Ends (Γ : Tab) (rs : List ResultVar) (d : VV) : Exit → VS → Prop
  | .ret, σ => ∃ v, vres Γ rs σ = some v ∧ deepV 3 (lk σ.H) v = some d
  | .normal, σ => ∃ v, vres Γ rs σ = some v ∧ deepV 3 (lk σ.H) v = some d
  | _, _ => False

section
variable {P : Program} {Γ : Tab} {G : Globs}
theorem fn_of_vwp (hΓ : TabOk P Γ) {g : FuncId} {fn : Func} {code : Code} (hf : P.funcs[g]? = some fn) (hname : (fn.name == "runtime.NumGoroutine") = false) (hb : fn.body = some code) {dargs : List VV} {d : VV}
    (hnt : dargs.length ≤ fn.ntmps) (h : VWP P G 0 code (Ends Γ fn.results.toList d) ⟨args0 0 dargs, fn.ntmps, [], 0⟩) : FnV P G g dargs d := by
  intro w A args hG hargs
  unfold FGoes
  have hent : (callFunc g args).run P w = .ok (.enter g args) w := by
    have h1 : fn.name ≠ "runtime.NumGoroutine" := by simpa using hname
    simp [callFunc, hf, h1, hb]
  rw [hent]
  refine calls_of_wp hf hb ?_
  let c : Cf := ⟨fun _ => none, A, fun _ => none, w⟩
  have hlen := hargs.length
  have hs : St G c ⟨args0 0 dargs, fn.ntmps, [], 0⟩ { tmps := args ++ Array.replicate (fn.ntmps - args.size) undef, defers := [] } := by
    have hsz : args.size = dargs.length := by simpa using hlen
    refine ⟨?_, ?_, rfl, rfl, ⟨(fun h cs hl => by cases hl), (fun h h' cs cs' b hl => by cases hl)⟩, fun _ _ => rfl, hG⟩
    · refine args0_ok dargs 0 args.toList _ hargs fun j u hj => ?_
      have hj' : args[j]? = some u := by simpa using hj
      rw [Nat.zero_add, Array.getElem?_append_left (Array.getElem?_eq_some_iff.1 hj').1]
      exact hj'
    · simp only [Array.size_append, Array.size_replicate]
      show args.size + (fn.ntmps - args.size) = fn.ntmps
      omega
  refine Go.wp_mono (h.out c _ hs) fun e a' w' ⟨c', σ', hw, hq, hs', hle⟩ => ?_
  have fin : (∃ v, vres Γ fn.results.toList σ' = some v ∧ deepV 3 (lk σ'.H) v = some d) → a'.defers = [] ∧ ∃ v, (results fn a'.tmps).run P w' = .ok v w' ∧ ∃ u, Ending.returned v = .returned u ∧ VR (E0 w' (fun b => A b ∨ w.heap.size ≤ b)) d u ∧ RowKit.Below w.heap.size w w' := by
    rintro ⟨v, h1, h2⟩
    obtain ⟨u, h3, h4⟩ := vres_ok hΓ hs' h1
    subst hw
    have h5 := deepV_ok hs'.heap (lkf := lk σ'.H) (fun h cs hl => by rw [hs'.look]; exact hl) c'.all_same rfl (fun h cs b hl hr => .inr ⟨h, cs, by rw [hs'.look]; exact hl, hr⟩) 3 v d u h2 h4
    have noO : ∀ b, ¬ c.Owned b := fun b ⟨h, cs, hl, _⟩ => by cases hl
    refine ⟨hs'.defers, u, h3, u, rfl, ?_, hle.os, hle.tape, hle.output, hle.size, fun k hk => (hle.block k hk (noO k)).1⟩
    -- the values of the callee, seen from outside
    have mono : ∀ b, c'.A b ∨ c'.Owned b → A b ∨ w.heap.size ≤ b := by
      rintro b (hb | hb)
      · rcases hle.back b hb with h | h | h
        · exact .inl h
        · exact absurd h (noO b)
        · exact .inr h
      · rcases Nat.lt_or_ge b w.heap.size with h | h
        · exact absurd hb (hle.block b h (noO b)).2
        · exact .inr h
    have hk : c'.all.Keep (E0 c'.w (fun b => A b ∨ w.heap.size ≤ b)) := ⟨Nat.le_refl _, (fun h x hx => by cases hx), fun b _ hb => ⟨mono b hb, rfl⟩, fun b us T fr hb => ⟨us, fr, hb, rfl⟩, fun b es k hb => ⟨es, k, hb⟩⟩
    exact VR.keep hk _ h5
  cases e with
  | ret => exact fin hq
  | normal => exact fin hq
  | exit id => exact hq.elim
  | goto l => exact hq.elim
  | panic ch => exact hq.elim
  | outgrown => exact hq.elim

/-- Nothing but plain values. -/
def GOk (G : Globs) : Prop := ∀ g es, G g = some es → noHs es = true

/-- The contract, at a call with values that are only read. -/
theorem ret_of_fn {g : FuncId} {dargs : List VV} {d : VV} (hG : GOk G) (h : FnV P G g dargs d) (hn : noHs dargs = true) (hd : noH d = true) {lkf : Nat → Option (List VV)} {n : Nat} : Ret P G g dargs lkf n ⟨d, [], [], 0⟩ := by
  refine ⟨(fun p hp => by cases hp), fun c args H hg hargs _ _ => ?_⟩
  have hsame : c.env.Same (E0 c.w c.A) := ⟨fun b hb ha => ⟨ha, hb, rfl⟩⟩
  have h1 := h c.w c.A args (fun g es he => VR.same hsame _ (by simpa [noH] using hG g es he) (hg g es he)) (VRs.same hsame _ hn hargs)
  have conv : ∀ u w', (VR (E0 w' (fun b => c.A b ∨ c.w.heap.size ≤ b)) d u ∧ RowKit.Below c.w.heap.size c.w w') → Leaves c n ⟨d, [], [], 0⟩ u w' := by
    rintro u w' ⟨h2, h3⟩
    let c' : Cf := ⟨c.ρ, fun b => c.A b ∨ c.w.heap.size ≤ b, c.look, w'⟩
    have own : ∀ b, c.Owned b → b < c.w.heap.size ∧ ¬ c.A b := by
      rintro b ⟨hd, cs, hl, hr⟩
      rcases H.blk hd cs hl with ⟨k1, _⟩ | ⟨b', k1, k2⟩
      · rw [hr] at k1; cases k1
      · rw [hr] at k1; cases k1
        exact ⟨k2.lt, k2.1⟩
    have keep : c.env.Keep c'.env := ⟨h3.size, fun _ _ h => h, fun b hb ha => ⟨.inl ha, h3.block b hb⟩, fun b us T fr hb => ⟨us, fr, by show w'.heap[b]? = _; rw [h3.block b (Array.getElem?_eq_some_iff.1 hb).1]; exact hb, rfl⟩, fun b es k hb => ⟨es, k, by show w'.heap[b]? = _; rw [h3.block b (Array.getElem?_eq_some_iff.1 hb).1]; exact hb⟩⟩
    refine ⟨c', rfl, ⟨fun hd cs hl => ?_, fun a b cs cs' x => H.inj a b cs cs' x⟩, rfl, ?_, ⟨keep, h3.os, h3.tape, h3.output, fun b hb ho => ⟨h3.block b hb, ho⟩, fun b hb => ?_⟩, newOnly.refl⟩
    · rcases H.blk hd cs hl with k1 | ⟨b, k1, k2⟩
      · exact .inl k1
      · have ho := own b ⟨hd, cs, hl, k1⟩
        refine .inr ⟨b, k1, k2.keep keep ?_ (h3.block b ho.1)⟩
        rintro (hx | hx)
        · exact ho.2 hx
        · have hx' : c.w.heap.size ≤ b := hx
          omega
    · exact VR.same (E := E0 w' (fun b => c.A b ∨ c.w.heap.size ≤ b)) (E' := c'.env) ⟨fun b hb ha => ⟨ha, hb, rfl⟩⟩ _ hd h2
    · rcases hb with hb | hb
      · exact .inl hb
      · exact .inr (.inr hb)
  unfold FGoes at h1 ⊢
  split at h1
  · rename_i hq; first | (rw [hq]; exact conv _ _ h1) | exact conv _ _ h1
  · rename_i hq; first | (rw [hq]; exact Calls.mono h1 fun e w'' ⟨u, he, hR⟩ => ⟨u, he, conv _ _ hR⟩) | exact Calls.mono h1 fun e w'' ⟨u, he, hR⟩ => ⟨u, he, conv _ _ hR⟩
  · exact h1.elim
end
/-- Is a cell of a zero value as the table says? -/
def zeq : VV → Value → Bool
  | .v (.int k n), .int k' n' => decide (k = k') && decide (n = n')
  | .v (.bool b), .bool b' => b == b'
  | .v (.string s), .string s' => decide (s.data.toList = s'.data.toList)
  | .v (.pointer none), .pointer none => true
  | .ds true 0 [], .slice none 0 0 => true
  | .v (.map none), .map none => true
  | .v .nilFunc, .nilFunc => true
  | .v .nilIface, .nilIface => true
  | _, _ => false
theorem zeq_ok {v : VV} {z : Value} (h : zeq v z = true) : cellV z = v := by
  unfold zeq at h
  split at h
  · simp at h; obtain ⟨rfl, rfl⟩ := h; rfl
  · simp at h; subst h; rfl
  · rename_i s s'
    simp at h
    have : s = s' := by
      cases s; cases s'; congr 1
    subst this; rfl
  · rfl
  · rfl
  · rfl
  · rfl
  · rfl
  · cases h
def zeqs : List VV → List Value → Bool
  | [], [] => true
  | v :: vs, z :: zs => zeq v z && zeqs vs zs
  | _, _ => false
theorem zeqs_ok : ∀ {vs : List VV} {zs : List Value}, zeqs vs zs = true → zs.map cellV = vs
  | [], [], _ => rfl
  | v :: vs, z :: zs, h => by
    simp only [zeqs, Bool.and_eq_true] at h
    rw [List.map_cons, zeq_ok h.1, zeqs_ok h.2]
def feq : List (Nat × TypeId) → List Field → Bool
  | [], [] => true
  | (o, t) :: l, f :: fs => decide (f.offset = o) && decide (f.type = t) && feq l fs
  | _, _ => false
theorem feq_ok : ∀ {l : List (Nat × TypeId)} {fs : List Field}, feq l fs = true → fs.map (fun f => (f.offset, f.type)) = l
  | [], [], _ => rfl
  | (o, t) :: l, f :: fs, h => by
    simp only [feq, Bool.and_eq_true, decide_eq_true_eq] at h
    rw [List.map_cons, feq_ok h.2, h.1.1, h.1.2]
def tdB : TD → TypeDesc → Bool
  | .int k, .int k' => decide (k = k')
  | .bool, .bool => true
  | .str, .string => true
  | .ptr, .pointer _ => true
  | .arr n e, .array n' e' => decide (n = n') && decide (e = e')
  | .slice e, .slice e' => decide (e = e')
  | .struct fs, .struct fields => feq fs fields.toList
  | .other, .struct _ => false
  | .other, .array _ _ => false
  | .other, .interface _ => false
  | .other, _ => true
  | _, _ => false
theorem tdB_ok {d : TD} {e : TypeDesc} (h : tdB d e = true) : TDok d e := by
  unfold tdB at h
  split at h <;> (try simp at h) <;> (try simp only [TDok])
  · rw [h]
  · exact ⟨_, rfl⟩
  · rw [h.1, h.2]
  · rw [h]
  · exact ⟨_, rfl, feq_ok h⟩
def trB (P : Program) (t : TypeId) (r : TR) : Bool :=
  match P.underlying t, P.info? t with
  | some d, some i => tdB r.d d && decide (i.size = r.size) && decide (i.bytes = r.bytes) && match i.zero with
    | some z => zeqs r.zero z.cells.toList && decide (z.cells.size = r.size) && z.cells.all (·.oneCell')
    | none => false
  | _, _ => false
theorem trB_ok {P : Program} {t : TypeId} {r : TR} (h : trB P t r = true) : TROk P t r := by
  unfold trB at h
  split at h
  · rename_i d i h1 h2
    simp only [Bool.and_eq_true, decide_eq_true_eq] at h
    obtain ⟨⟨⟨g1, g2⟩, g3⟩, g4⟩ := h
    split at g4
    · rename_i z hz
      simp only [Bool.and_eq_true, decide_eq_true_eq] at g4
      exact ⟨d, i, z, h1, tdB_ok g1, h2, g2, g3, hz, zeqs_ok g4.1.1, g4.1.2, g4.2⟩
    · cases g4
  · cases h
def lkT : List (TypeId × TR) → TypeId → Option TR
  | [], _ => none
  | (k, r) :: l, t => if t = k then some r else lkT l t
theorem tabOk {P : Program} {l : List (TypeId × TR)} (h : (l.all fun p => trB P p.1 p.2) = true) : TabOk P (lkT l) := by
  intro t r ht
  have : (t, r) ∈ l := by
    clear h
    induction l with
    | nil => cases ht
    | cons p l ih =>
      obtain ⟨k, q⟩ := p
      simp only [lkT] at ht
      split at ht
      · rename_i e; subst e; cases ht; simp
      · simp [ih ht]
  exact trB_ok (List.all_eq_true.1 h _ this)
variable {K : Nat}

def lkr : List (Nat × Option Nat) → Nat → Option (Option Nat)
  | [], _ => none
  | (k, x) :: l, h => match decEq h k with
    | isTrue _ => some x
    | isFalse _ => lkr l h
theorem lkr_mem : ∀ {l : List (Nat × Option Nat)} {h : Nat} {x : Option Nat}, lkr l h = some x → (h, x) ∈ l
  | [], h, x, e => by cases e
  | (k, y) :: l, h, x, e => by
    simp only [lkr] at e
    split at e
    · rename_i e1 _; cases e; subst e1; simp
    · simp [lkr_mem e]
/-- The blocks that are given up. -/
def frz (ren : List (Nat × Option Nat)) (H : List (Nat × Option (List VV))) (h : Nat) : Option (List VV) :=
  match (ren.filterMap (·.2)).contains h with
  | true => none
  | false => lk H h
mutual
/-- A value under new names, its given-up slices only read. -/
inductive Conv (ren : List (Nat × Option Nat)) (lkF : Nat → Option (List VV)) : VV → VV → Prop
  | same {v : VV} : noH v = true → Conv ren lkF v v
  | ptr {h h' off : Nat} : lkr ren h' = some (some h) → Conv ren lkF (.ptr h off) (.ptr h' off)
  | mp {h h' : Nat} : lkr ren h' = some (some h) → Conv ren lkF (.mp h) (.mp h')
  | it {h h' : Nat} : lkr ren h' = some (some h) → Conv ren lkF (.it h) (.it h')
  | sl {h h' off n wd : Nat} : lkr ren h' = some (some h) → Conv ren lkF (.sl h off n wd) (.sl h' off n wd)
  | null {h' wd : Nat} : lkr ren h' = some none → Conv ren lkF (.ds true 0 []) (.sl h' 0 0 wd)
  | deep {v v' : VV} : deepV 3 lkF v = some v' → Conv ren lkF v v'
  | loose {f : Bool} {n : Nat} {es : List VV} : noHs es = true → Conv ren lkF (.ds f n es) (.ds false n es)
  | agg {cs cs' : List VV} : Convs ren lkF cs cs' → Conv ren lkF (.agg cs) (.agg cs')
  | tup {cs cs' : List VV} : Convs ren lkF cs cs' → Conv ren lkF (.tup cs) (.tup cs')
  | fn {f : Fn} {cs cs' : List VV} : Convs ren lkF cs cs' → Conv ren lkF (.fn f cs) (.fn f cs')
  | any {v : VV} : Conv ren lkF v .any
inductive Convs (ren : List (Nat × Option Nat)) (lkF : Nat → Option (List VV)) : List VV → List VV → Prop
  | nil : Convs ren lkF [] []
  | same {cs : List VV} : noHs cs = true → Convs ren lkF cs cs
  | cons {v v' : VV} {cs cs' : List VV} : Conv ren lkF v v' → Convs ren lkF cs cs' → Convs ren lkF (v :: cs) (v' :: cs')
end
section
variable {ren : List (Nat × Option Nat)} {c : Cf} (H : HRel c) {lkF : Nat → Option (List VV)} (hlk : ∀ h cs, lkF h = some cs → c.look h = some cs) {E' : Env} (hS : c.env.Same E') (hw : E'.w = c.w)
  (hA : ∀ h cs b, lkF h = some cs → c.ρ h = some (some b) → E'.A b) (hρ : ∀ h' h x, lkr ren h' = some (some h) → c.ρ h = some x → E'.ρ h' = some x) (hnull : ∀ h', lkr ren h' = some none → E'.ρ h' = some none)
include H hlk hS hw hA hρ hnull
mutual
theorem Conv.ok : ∀ {v v' : VV}, Conv ren lkF v v' → ∀ {u : Value}, VR c.env v u → VR E' v' u
  | _, _, .same hn, u, h => VR.same hS _ hn h
  | _, _, .ptr hr, u, h => by
    simp only [VR] at h ⊢
    obtain ⟨b, h1, h2, h3⟩ := h
    exact ⟨b, hρ _ _ _ hr h1, h2, by rw [hw]; exact h3⟩
  | _, _, .mp hr, u, h => by
    simp only [VR] at h ⊢
    obtain ⟨b, h1, h2, h3⟩ := h
    exact ⟨b, hρ _ _ _ hr h1, h2, by rw [hw]; exact h3⟩
  | _, _, .it hr, u, h => by
    simp only [VR] at h ⊢
    obtain ⟨b, h1, h2⟩ := h
    exact ⟨b, hρ _ _ _ hr h1, h2⟩
  | _, _, .sl hr, u, h => by
    simp only [VR] at h ⊢
    rcases h with ⟨h1, h2⟩ | ⟨b, cap, h1, h2, h3, h4, us, T, fr, h5, h6⟩
    · exact .inl ⟨hρ _ _ _ hr h1, h2⟩
    · exact .inr ⟨b, cap, hρ _ _ _ hr h1, h2, h3, h4, us, T, fr, by rw [hw]; exact h5, h6⟩
  | _, _, .null hr, u, h => by
    simp only [VR] at h ⊢
    refine .inl ⟨hnull _ hr, by trivial, by trivial, ?_⟩
    rcases h with ⟨_, _, ao, h⟩ | ⟨b, off, cap, _, _, h, _, h2, _⟩
    · exact ⟨ao, h⟩
    · have : cap = 0 := by simpa using h2
      subst this
      exact ⟨_, h⟩
  | _, _, .deep hd, u, h => deepV_ok H hlk hS hw hA 3 _ _ _ hd h
  | _, _, .loose (f := f) (n := n) (es := es) hn, u, h => by
    have h := VR.same hS (.ds f n es) (by simpa [noH] using hn) h
    simp only [VR] at h ⊢
    rcases h with h | ⟨b, off, cap, q1, q2, q3, q4, _, q6⟩
    · exact .inl h
    · exact .inr ⟨b, off, cap, q1, q2, q3, q4, by simp, q6⟩
  | _, _, .agg hc, u, h => by
    simp only [VR] at h ⊢
    obtain ⟨us, h1, h2, h3⟩ := h
    exact ⟨us, h1, Convs.ok hc h2, h3⟩
  | _, _, .tup hc, u, h => by
    simp only [VR] at h ⊢
    obtain ⟨us, h1, h2⟩ := h
    exact ⟨us, h1, Convs.ok hc h2⟩
  | _, _, .fn hc, u, h => by
    simp only [VR] at h ⊢
    obtain ⟨us, h1, h2⟩ := h
    exact ⟨us, h1, Convs.ok hc h2⟩
  | _, _, .any, u, _ => by simp [VR]
theorem Convs.ok : ∀ {cs cs' : List VV}, Convs ren lkF cs cs' → ∀ {us : List Value}, VRs c.env cs us → VRs E' cs' us
  | _, _, .nil, us, h => by simpa [VRs] using h
  | _, _, .same hn, us, h => VRs.same hS _ hn h
  | _, _, .cons hc hcs, us, h => by
    simp only [VRs] at h ⊢
    obtain ⟨u, us', h1, h2, h3⟩ := h
    exact ⟨u, us', h1, Conv.ok hc h2, Convs.ok hcs h3⟩
end
end
mutual
theorem Conv.len {ren : List (Nat × Option Nat)} {lkF : Nat → Option (List VV)} : ∀ {v v' : VV}, Conv ren lkF v v' → True
  | _, _, _ => trivial
theorem Convs.len {ren : List (Nat × Option Nat)} {lkF : Nat → Option (List VV)} : ∀ {cs cs' : List VV}, Convs ren lkF cs cs' → cs'.length = cs.length
  | _, _, .nil => rfl
  | _, _, .same _ => rfl
  | _, _, .cons _ h => by simp [Convs.len h]
end

/-- The slots of σ', out of those of σ. -/
def convT (ren : List (Nat × Option Nat)) (lkF : Nat → Option (List VV)) (T : List (Nat × VV)) : List (Nat × VV) → Prop
  | [] => True
  | (t, v') :: l => (∃ v, lkt T t = some v ∧ Conv ren lkF v v') ∧ convT ren lkF T l
theorem convT_at {ren : List (Nat × Option Nat)} {lkF : Nat → Option (List VV)} {T : List (Nat × VV)} : ∀ {l : List (Nat × VV)}, convT ren lkF T l → ∀ {t : Nat} {v' : VV}, lkt l t = some v' → ∃ v, lkt T t = some v ∧ Conv ren lkF v v'
  | [], _, t, v', e => by cases e
  | (k, x) :: l, h, t, v', e => by
    simp only [convT] at h
    rw [lkt_cons] at e
    split at e
    · rename_i e1; subst e1; cases e; exact h.1
    · exact convT_at h.2 e
def convH (ren : List (Nat × Option Nat)) (lkF : Nat → Option (List VV)) (H : List (Nat × Option (List VV))) : List (Nat × Option (List VV)) → Prop
  | [] => True
  | (h', none) :: l => convH ren lkF H l
  | (h', some cs') :: l => ((lkr ren h' = some none ∧ cs' = []) ∨ ∃ h cs, lkr ren h' = some (some h) ∧ lk H h = some cs ∧ Convs ren lkF cs cs') ∧ convH ren lkF H l
theorem convH_at {ren : List (Nat × Option Nat)} {lkF : Nat → Option (List VV)} {H : List (Nat × Option (List VV))} : ∀ {l : List (Nat × Option (List VV))}, convH ren lkF H l → ∀ {h' : Nat} {cs' : List VV}, lk l h' = some cs' →
    (lkr ren h' = some none ∧ cs' = []) ∨ ∃ h cs, lkr ren h' = some (some h) ∧ lk H h = some cs ∧ Convs ren lkF cs cs'
  | [], _, _, _, e => by cases e
  | (k, none) :: l, hh, h', cs', e => by
    simp only [convH] at hh
    rw [lk_cons] at e
    split at e
    · cases e
    · exact convH_at hh e
  | (k, some x) :: l, hh, h', cs', e => by
    simp only [convH] at hh
    rw [lk_cons] at e
    split at e
    · rename_i e1; subst e1; cases e; exact hh.1
    · exact convH_at hh.2 e
def renOk (ren : List (Nat × Option Nat)) (n : Nat) : Bool := noDup (ren.filterMap (·.2)) && noDup (ren.map (·.1)) && ren.all fun p => Nat.blt p.1 n
theorem ren_inj : ∀ {ren : List (Nat × Option Nat)}, noDup (ren.filterMap (·.2)) = true → ∀ {a b h : Nat}, lkr ren a = some (some h) → lkr ren b = some (some h) → a = b
  | [], _, a, b, h, ha, _ => by cases ha
  | (k, x) :: ren, hn, a, b, h, ha, hb => by
    have tl : noDup (ren.filterMap (·.2)) = true := by
      cases x with
      | none => simpa using hn
      | some y => simp [noDup] at hn; exact hn.2
    have hx : ∀ a', lkr ren a' = some (some h) → x ≠ some h := fun a' ha' e => by
      have hm := lkr_mem ha'
      rw [e] at hn
      simp [noDup] at hn
      exact hn.1 _ hm
    simp only [lkr] at ha hb
    split at ha
    · rename_i e1 _
      split at hb
      · rename_i e2 _; rw [e1, e2]
      · cases ha; exact absurd rfl (hx b hb)
    · split at hb
      · cases hb; exact absurd rfl (hx a ha)
      · exact ren_inj tl ha hb

def anchOk : Nat → List (Nat × Option Nat) → Bool
  | 0, _ => true
  | k + 1, ren => anchOk k ren && (match lkr ren k with | some (some h) => Nat.beq h k | _ => false)
theorem anchOk_at : ∀ {K : Nat} {ren : List (Nat × Option Nat)}, anchOk K ren = true → ∀ h, h < K → lkr ren h = some (some h)
  | 0, _, _, h, hh => by omega
  | k + 1, ren, e, h, hh => by
    simp only [anchOk, Bool.and_eq_true] at e
    by_cases hk : h = k
    · subst hk
      have := e.2
      split at this
      · rename_i x hx; have := Nat.eq_of_beq_eq_true this; subst this; exact hx
      · cases this
    · exact anchOk_at e.1 h (by omega)
theorem conv_cfg {G : Globs} (hG : GOk G) {σ σ' : VS} (ren : List (Nat × Option Nat)) (hsz : σ'.sz = σ.sz) (hok : renOk ren σ'.n = true) (hT : convT ren (frz ren σ.H) σ.T σ'.T) (hH : convH ren (frz ren σ.H) σ.H σ'.H) (hK : anchOk K ren = true) {c : Cf} {a : Act} (hs : St G c σ a) :
    ∃ c', c'.w = c.w ∧ St G c' σ' a ∧ LeW K c c' ∧ (∀ v v' u, Conv ren (frz ren σ.H) v v' → VR c.env v u → VR c'.env v' u) ∧ (∀ h', c'.ρ h' ≠ none → h' < σ'.n) := by
  simp only [renOk, Bool.and_eq_true] at hok
  obtain ⟨⟨r1, r2⟩, r3⟩ := hok
  have hlk : ∀ h cs, frz ren σ.H h = some cs → c.look h = some cs := fun h cs e => by
    unfold frz at e
    split at e
    · cases e
    · rw [hs.look]; exact e
  have hnk : ∀ h cs, frz ren σ.H h = some cs → ∀ h', lkr ren h' ≠ some (some h) := fun h cs e h' he => by
    unfold frz at e
    split at e
    · cases e
    · rename_i hc
      have : h ∈ ren.filterMap (·.2) := List.mem_filterMap.2 ⟨_, lkr_mem he, rfl⟩
      simp at hc
      have h2 := lkr_mem he
      exact hc _ h2
  let ρ' : Nat → Option (Option Nat) := fun h' => match lkr ren h' with
    | some (some h) => c.ρ h
    | some none => some none
    | none => none
  let c' : Cf := ⟨ρ', fun b => c.A b ∨ ∃ h cs, frz ren σ.H h = some cs ∧ c.ρ h = some (some b), lk σ'.H, c.w⟩
  have hS : c.env.Same c'.env := ⟨fun b hb ha => ⟨.inl ha, hb, rfl⟩⟩
  have hρ : ∀ h' h x, lkr ren h' = some (some h) → c.ρ h = some x → c'.env.ρ h' = some x := fun h' h x e1 e2 => by
    show ρ' h' = some x
    simp only [ρ', e1, e2]
  have hnull : ∀ h', lkr ren h' = some none → c'.env.ρ h' = some none := fun h' e => by
    show ρ' h' = some none
    simp only [ρ', e]
  have hA : ∀ h cs b, frz ren σ.H h = some cs → c.ρ h = some (some b) → c'.env.A b := fun h cs b e1 e2 => .inr ⟨h, cs, e1, e2⟩
  have own : ∀ h' cs' b, lk σ'.H h' = some cs' → ρ' h' = some (some b) → ∃ h cs, lkr ren h' = some (some h) ∧ c.look h = some cs ∧ c.ρ h = some (some b) ∧ Convs ren (frz ren σ.H) cs cs' := by
    intro h' cs' b e1 e2
    rcases convH_at hH e1 with ⟨h1, _⟩ | ⟨h, cs, h1, h2, h3⟩
    · simp only [ρ', h1] at e2; cases e2
    · simp only [ρ', h1] at e2
      exact ⟨h, cs, h1, by rw [hs.look]; exact h2, e2, h3⟩
  refine ⟨c', rfl, ⟨fun t v' ht => ?_, by rw [hsz]; exact hs.size, hs.defers, rfl, ⟨fun h' cs' e => ?_, fun h1 h2 cs1 cs2 b e1 e2 e3 e4 => ?_⟩, fun h' hh => ?_, fun g es he => ?_⟩,
    ⟨Nat.le_refl _, fun b us T fr h => ⟨us, fr, h, rfl⟩, fun b es k h => ⟨es, k, h⟩, rfl, rfl, rfl, fun b hb ha => ⟨.inl ha, rfl⟩, fun b hb ho => ⟨rfl, ?_⟩, fun b hb => ?_, fun h x hh e => hρ h h x (anchOk_at hK h hh) e⟩, fun v v' u hc hv => Conv.ok hs.heap hlk hS rfl hA hρ hnull hc hv, fun h' hh => ?_⟩
  · obtain ⟨v, h1, h2⟩ := convT_at hT ht
    obtain ⟨u, h3, h4⟩ := hs.tmps t v h1
    exact ⟨u, h3, Conv.ok hs.heap hlk hS rfl hA hρ hnull h2 h4⟩
  · rcases convH_at hH e with ⟨h1, h2⟩ | ⟨h, cs, h1, h2, h3⟩
    · exact .inl ⟨by show ρ' h' = _; simp only [ρ', h1], h2⟩
    · have hl := Convs.len h3
      rcases hs.heap.blk h cs (by rw [hs.look]; exact h2) with ⟨k1, rfl⟩ | ⟨b, k1, k2, kk⟩
      · exact .inl ⟨by show ρ' h' = _; simp only [ρ', h1, k1], List.eq_nil_of_length_eq_zero (by simpa using hl)⟩
      · refine .inr ⟨b, by show ρ' h' = _; simp only [ρ', h1, k1], ?_, ?_⟩
        · rintro (ha | ⟨h2', cs2, e1, e2⟩)
          · exact k2 ha
          · have := hs.heap.inj h2' h cs2 cs b (hlk _ _ e1) (by rw [hs.look]; exact h2) e2 k1
            subst this
            exact hnk _ _ e1 _ h1
        · rcases kk with ⟨us, T, fr, k3, k4, k5, k6, k7⟩ | ⟨es, k, k3, k6, k7⟩
          · exact .inl ⟨us, T, fr, k3, k4, by omega, by rw [hl]; exact Convs.ok hs.heap hlk hS rfl hA hρ hnull h3 k6, by rw [hl]; exact k7⟩
          · exact .inr ⟨es, k, k3, Convs.ok hs.heap hlk hS rfl hA hρ hnull h3 k6, k7⟩
  · obtain ⟨a1, x1, p1, p2, p3, _⟩ := own h1 cs1 b e1 e3
    obtain ⟨a2, x2, q1, q2, q3, _⟩ := own h2 cs2 b e2 e4
    have := hs.heap.inj a1 a2 x1 x2 b p2 q2 p3 q3
    subst this
    exact ren_inj r1 p1 q1
  · show ρ' h' = none
    simp only [ρ']
    cases hq : lkr ren h' with
    | none => rfl
    | some x =>
      have := List.all_eq_true.1 r3 _ (lkr_mem hq)
      rw [Nat.blt_eq] at this
      simp only at this
      omega
  · exact VR.same hS _ (by simpa [noH] using hG g es he) (hs.glob g es he)
  · rintro ⟨h', cs', e1, e2⟩
    obtain ⟨h, cs, p1, p2, p3, _⟩ := own h' cs' b e1 e2
    exact ho ⟨h, cs, p2, p3⟩
  · rcases hb with hb | ⟨h, cs, e1, e2⟩
    · exact .inl hb
    · exact .inr (.inl ⟨h, cs, hlk _ _ e1, e2⟩)
  · have hh' : ρ' h' ≠ none := hh
    simp only [ρ'] at hh'
    cases hq : lkr ren h' with
    | none => rw [hq] at hh'; exact absurd rfl hh'
    | some x =>
      have := List.all_eq_true.1 r3 _ (lkr_mem hq)
      rw [Nat.blt_eq] at this
      exact this
theorem sub_conv {G : Globs} (hG : GOk G) {σ σ' : VS} (ren : List (Nat × Option Nat)) (hsz : σ'.sz = σ.sz) (hok : renOk ren σ'.n = true) (hT : convT ren (frz ren σ.H) σ.T σ'.T) (hH : convH ren (frz ren σ.H) σ.H σ'.H) (hK : anchOk K ren = true := by rfl) : Sub G K σ σ' := by
  refine ⟨fun c a hs => ?_⟩
  obtain ⟨c', h1, h2, h3, _⟩ := conv_cfg hG ren hsz hok hT hH hK hs
  exact ⟨c', h1, h2, h3⟩
variable {K : Nat}
theorem bindP_intro {α : Type} {x : Option α} {a : α} {k : α → Prop} (h : x = some a) (hk : k a) : bindP x k := by subst h; exact hk
theorem bool_cases {b : Bool} {A B : Prop} (h1 : b = true → A) (h2 : b = false → B) : condP b A B := by
  cases b
  · exact h2 rfl
  · exact h1 rfl
theorem ends_ret {Γ : Tab} {rs : List ResultVar} {d : VV} {σ : VS} (v : VV) (h1 : vres Γ rs σ = some v) (h2 : deepV 3 (lk σ.H) v = some d) : Ends Γ rs d .ret σ := ⟨v, h1, h2⟩

/-- A plain value. -/
def plV : VV → Option Value
  | .v x => some x
  | .agg cs => match plVs cs with
    | some us => match us.all (·.oneCell') with
      | true => some (.agg us.toArray)
      | false => none
    | none => none
  | .tup cs => match plVs cs with
    | some us => some (.tuple us.toArray)
    | none => none
  | _ => none
where plVs : List VV → Option (List Value)
  | [] => some []
  | .v x :: cs => match plVs cs with
    | some us => some (x :: us)
    | none => none
  | .agg ds :: cs => match plVs ds, plVs cs with
    | some vs, some us => match vs.all (·.oneCell') with
      | true => some (.agg vs.toArray :: us)
      | false => none
    | _, _ => none
  | _ :: _ => none
variable {K : Nat}

/-- Calls with slices that are owned: the callee only reads them. -/
def only (rd : List Nat) (lkf : Nat → Option (List VV)) (h : Nat) : Option (List VV) := match rd.contains h with
  | true => lkf h
  | false => none
theorem only_some {rd : List Nat} {lkf : Nat → Option (List VV)} {h : Nat} {cs : List VV} (e : only rd lkf h = some cs) : h ∈ rd ∧ lkf h = some cs := by
  unfold only at e
  split at e
  · rename_i hc; exact ⟨by simpa using hc, e⟩
  · cases e
-- a value that says nothing of blocks
mutual
def pureV : VV → Bool
  | .v _ => true
  | .agg cs => pureVs cs
  | .tup cs => pureVs cs
  | .ds true 0 [] => true
  | .fn _ caps => pureVs caps
  | .ifc _ x => pureV x
  | .any => true
  | _ => false
def pureVs : List VV → Bool
  | [] => true
  | c :: cs => pureV c && pureVs cs
end
theorem pureVs_iff : ∀ {cs : List VV}, pureVs cs = true ↔ ∀ c ∈ cs, pureV c = true
  | [] => by simp [pureVs]
  | c :: cs => by simp [pureVs, pureVs_iff (cs := cs)]
mutual
theorem VR.pure {E E' : Env} : ∀ (c : VV) {u : Value}, pureV c = true → VR E c u → VR E' c u
  | .v x, u, _, h => by simpa [VR] using h
  | .agg cs, u, hn, h => by
    simp only [VR] at h ⊢
    obtain ⟨us, rfl, h, h1⟩ := h
    exact ⟨us, rfl, VRs.pure cs (by simpa [pureV] using hn) h, h1⟩
  | .tup cs, u, hn, h => by
    simp only [VR] at h ⊢
    obtain ⟨us, rfl, h⟩ := h
    exact ⟨us, rfl, VRs.pure cs (by simpa [pureV] using hn) h⟩
  | .ptr _ _, u, hn, hh => by simp [pureV] at hn
  | .sl _ _ _ _, u, hn, hh => by simp [pureV] at hn
  | .ds true 0 [], u, hn, hh => by
    simp only [VR] at hh ⊢
    refine .inl ⟨by trivial, by trivial, ?_⟩
    rcases hh with ⟨_, _, h⟩ | ⟨b, off, cap, _, _, rfl, _, h2, _⟩
    · exact h
    · have : cap = 0 := by simpa using h2
      subst this
      exact ⟨_, rfl⟩
  | .ds true 0 (_ :: _), u, hn, hh => by simp [pureV] at hn
  | .ds true (_ + 1) _, u, hn, hh => by simp [pureV] at hn
  | .ds false _ _, u, hn, hh => by simp [pureV] at hn
  | .dp _ _, u, hn, hh => by simp [pureV] at hn
  | .fn f caps, u, hn, h => by
    simp only [VR] at h ⊢
    obtain ⟨us, rfl, h⟩ := h
    exact ⟨us, rfl, VRs.pure caps (by simpa [pureV] using hn) h⟩
  | .ifc t x, u, hn, h => by
    simp only [VR] at h ⊢
    obtain ⟨u', rfl, h⟩ := h
    exact ⟨u', rfl, VR.pure x (by simpa [pureV] using hn) h⟩
  | .any, u, _, h => by simp [VR]
theorem VRs.pure {E E' : Env} : ∀ (cs : List VV) {us : List Value}, pureVs cs = true → VRs E cs us → VRs E' cs us
  | [], us, _, h => by simpa [VRs] using h
  | c :: cs, us, hn, h => by
    simp only [VRs] at h ⊢
    simp [pureVs] at hn
    obtain ⟨u, us', rfl, h1, h2⟩ := h
    exact ⟨u, us', rfl, VR.pure c hn.1 h1, VRs.pure cs hn.2 h2⟩
end

section
variable {P : Program} {G : Globs}
/-- What a call leaves where nothing that was there turns. -/
theorem leaves_new {c : Cf} (H : HRel c) {d : VV} {n : Nat} {rd : List Nat} {u : Value} {w' : World} (hd : VR ⟨w', c.ρ, fun b => c.A b ∨ c.w.heap.size ≤ b⟩ d u) (h3 : RowKit.Below c.w.heap.size c.w w') : Leaves c n ⟨d, rd, [], 0⟩ u w' := by
  let c' : Cf := ⟨c.ρ, fun b => c.A b ∨ c.w.heap.size ≤ b, c.look, w'⟩
  have own : ∀ b, c.Owned b → b < c.w.heap.size ∧ ¬ c.A b := by
    rintro b ⟨hd, cs, hl, hr⟩
    rcases H.blk hd cs hl with ⟨k1, _⟩ | ⟨b', k1, k2⟩
    · rw [hr] at k1; cases k1
    · rw [hr] at k1; cases k1
      exact ⟨k2.lt, k2.1⟩
  have keep : c.env.Keep c'.env := ⟨h3.size, fun _ _ h => h, fun b hb ha => ⟨.inl ha, h3.block b hb⟩, fun b us T fr hb => ⟨us, fr, by show w'.heap[b]? = _; rw [h3.block b (Array.getElem?_eq_some_iff.1 hb).1]; exact hb, rfl⟩, fun b es k hb => ⟨es, k, by show w'.heap[b]? = _; rw [h3.block b (Array.getElem?_eq_some_iff.1 hb).1]; exact hb⟩⟩
  refine ⟨c', rfl, ⟨fun hd cs hl => ?_, fun a b cs cs' x => H.inj a b cs cs' x⟩, rfl, hd, ⟨keep, h3.os, h3.tape, h3.output, fun b hb ho => ⟨h3.block b hb, ho⟩, fun b hb => ?_⟩, newOnly.refl⟩
  · rcases H.blk hd cs hl with k1 | ⟨b, k1, k2⟩
    · exact .inl k1
    · have ho := own b ⟨hd, cs, hl, k1⟩
      refine .inr ⟨b, k1, k2.keep keep ?_ (h3.block b ho.1)⟩
      rintro (hx | hx)
      · exact ho.2 hx
      · have hx' : c.w.heap.size ≤ b := hx
        omega
  · rcases hb with hb | hb
    · exact .inl hb
    · exact .inr (.inr hb)
theorem fgoes_mono {g : FuncId} {args : Array Value} {w : World} {R R' : Value → World → Prop} (h : FGoes P g args w R) (k : ∀ u w', R u w' → R' u w') : FGoes P g args w R' := by
  unfold FGoes at h ⊢
  split at h
  · rename_i hq; first | (rw [hq]; exact k _ _ h) | exact k _ _ h
  · rename_i hq; first | (rw [hq]; exact Calls.mono h fun e w'' ⟨u, he, hR⟩ => ⟨u, he, k _ _ hR⟩) | exact Calls.mono h fun e w'' ⟨u, he, hR⟩ => ⟨u, he, k _ _ hR⟩
  · exact h.elim
/-- The contract, at a call with slices that are owned; the result says nothing of blocks. -/
theorem ret_own {g : FuncId} {dargs vargs : List VV} {d : VV} {lkf : Nat → Option (List VV)} {n : Nat} (rd : List Nat) (hG : GOk G) (h : FnV P G g dargs d) (hv : mapO (deepV 3 (only rd lkf)) vargs = some dargs) (hd : pureV d = true) : Ret P G g vargs lkf n ⟨d, rd, [], 0⟩ := by
  refine ⟨(fun p hp => by cases hp), fun c args H hg hargs hrd _ => ?_⟩
  have hlk : ∀ h cs, only rd lkf h = some cs → c.look h = some cs := fun h cs e => by
    obtain ⟨h1, h2⟩ := only_some e
    rw [hrd h h1]; exact h2
  have hA : ∀ h cs b, only rd lkf h = some cs → c.ρ h = some (some b) → c.all.A b := fun h cs b e hr => .inr ⟨h, cs, hlk h cs e, hr⟩
  have hda : VRs c.all dargs args.toList := mapO_ok (fun v d u => deepV_ok H hlk c.all_same rfl hA 3 v d u) _ _ _ hv hargs
  have h1 := h c.w c.all.A args (fun g es he => VR.same c.all_same _ (by simpa [noH] using hG g es he) (hg g es he)) hda
  exact fgoes_mono h1 fun u w' ⟨h2, h3⟩ => leaves_new H (VR.pure _ hd h2) h3

/-- The same; what is owned is given up by it. -/
theorem ret_give {g : FuncId} {dargs vargs : List VV} {d : VV} {lkf : Nat → Option (List VV)} {n : Nat} (rd : List Nat) (hG : GOk G) (h : FnV P G g dargs d) (hv : mapO (deepV 3 (only rd lkf)) vargs = some dargs) (hd : noH d = true) : Ret P G g vargs lkf n ⟨d, rd, rd.map fun h => (h, none), 0⟩ := by
  refine ⟨(fun p hp => by simp at hp; obtain ⟨h, h1, rfl⟩ := hp; exact .inl h1), fun c args H hg hargs hrd _ => ?_⟩
  have hlk : ∀ h cs, only rd lkf h = some cs → c.look h = some cs := fun h cs e => by
    obtain ⟨h1, h2⟩ := only_some e
    rw [hrd h h1]; exact h2
  let B : Nat → Prop := fun b => c.A b ∨ ∃ h cs, h ∈ rd ∧ c.look h = some cs ∧ c.ρ h = some (some b)
  have hsame : c.env.Same (E0 c.w B) := ⟨fun b hb ha => ⟨.inl ha, hb, rfl⟩⟩
  have hA : ∀ h cs b, only rd lkf h = some cs → c.ρ h = some (some b) → (E0 c.w B).A b := fun h cs b e hr => .inr ⟨h, cs, (only_some e).1, hlk h cs e, hr⟩
  have hda : VRs (E0 c.w B) dargs args.toList := mapO_ok (fun v d u => deepV_ok H hlk hsame rfl hA 3 v d u) _ _ _ hv hargs
  have h1 := h c.w B args (fun g es he => VR.same hsame _ (by simpa [noH] using hG g es he) (hg g es he)) hda
  refine fgoes_mono h1 fun u w' ⟨h2, h3⟩ => ?_
  have hfup : ∀ h, fup c.look (rd.map fun h => (h, (none : Option (List VV)))) h = if h ∈ rd then none else c.look h := by
    intro h
    by_cases hh : h ∈ rd
    · rw [if_pos hh]
      have key : ∀ (l : List Nat) (f : Nat → Option (List VV)), h ∈ l ∨ f h = none → fup f (l.map fun h => (h, (none : Option (List VV)))) h = none := by
        intro l
        induction l with
        | nil => intro f hf; rcases hf with hf | hf; cases hf; exact hf
        | cons x l ih =>
          intro f hf
          simp only [List.map_cons, fup]
          refine ih _ ?_
          rcases hf with hf | hf
          · rcases List.mem_cons.1 hf with rfl | hf
            · exact .inr (by simp)
            · exact .inl hf
          · exact .inr (by split <;> first | rfl | exact hf)
      exact key rd _ (.inl hh)
    · rw [if_neg hh]
      refine fup_other _ _ _ ?_
      simp only [List.any_map, List.any_eq_false, Function.comp]
      intro x hx e
      simp at e; subst e; exact hh hx
  let c' : Cf := ⟨c.ρ, fun b => B b ∨ c.w.heap.size ≤ b, fup c.look (rd.map fun h => (h, none)), w'⟩
  have own : ∀ b, c.Owned b → b < c.w.heap.size ∧ ¬ c.A b := by
    rintro b ⟨hd, cs, hl, hr⟩
    rcases H.blk hd cs hl with ⟨k1, _⟩ | ⟨b', k1, k2⟩
    · rw [hr] at k1; cases k1
    · rw [hr] at k1; cases k1
      exact ⟨k2.lt, k2.1⟩
  have keep : c.env.Keep c'.env := ⟨h3.size, fun _ _ h => h, fun b hb ha => ⟨.inl (.inl ha), h3.block b hb⟩, fun b us T fr hb => ⟨us, fr, by show w'.heap[b]? = _; rw [h3.block b (Array.getElem?_eq_some_iff.1 hb).1]; exact hb, rfl⟩, fun b es k hb => ⟨es, k, by show w'.heap[b]? = _; rw [h3.block b (Array.getElem?_eq_some_iff.1 hb).1]; exact hb⟩⟩
  have old : ∀ h cs, c'.look h = some cs → h ∉ rd ∧ c.look h = some cs := fun h cs e => by
    have e' : fup c.look (rd.map fun h => (h, none)) h = some cs := e
    rw [hfup] at e'
    split at e'
    · cases e'
    · rename_i hn; exact ⟨hn, e'⟩
  refine ⟨c', rfl, ⟨fun hd cs hl => ?_, fun a b cs cs' x e1 e2 => H.inj a b cs cs' x (old _ _ e1).2 (old _ _ e2).2⟩, rfl, ?_, ⟨keep, h3.os, h3.tape, h3.output, fun b hb ho => ⟨h3.block b hb, ?_⟩, fun b hb => ?_⟩, newOnly.refl⟩
  · obtain ⟨hn, hl'⟩ := old hd cs hl
    rcases H.blk hd cs hl' with k1 | ⟨b, k1, k2⟩
    · exact .inl k1
    · have ho := own b ⟨hd, cs, hl', k1⟩
      refine .inr ⟨b, k1, k2.keep keep ?_ (h3.block b ho.1)⟩
      rintro ((hx | ⟨h, cs2, q1, q2, q3⟩) | hx)
      · exact ho.2 hx
      · exact hn (H.inj h hd cs2 cs b q2 hl' q3 k1 ▸ q1)
      · have hx' : c.w.heap.size ≤ b := hx
        omega
  · exact VR.same (E := E0 w' (fun b => B b ∨ c.w.heap.size ≤ b)) (E' := c'.env) ⟨fun b hb ha => ⟨ha, hb, rfl⟩⟩ _ hd h2
  · rintro ⟨h, cs, e1, e2⟩
    exact ho ⟨h, cs, (old h cs e1).2, e2⟩
  · rcases hb with (hb | ⟨h, cs, q1, q2, q3⟩) | hb
    · exact .inl hb
    · exact .inr (.inl ⟨h, cs, q2, q3⟩)
    · exact .inr (.inr hb)
end
section
variable {P : Program} {G : Globs}
/-- A loop by what is known ahead of each round: slots and blocks under new names. -/
theorem vloop_invK (hG : GOk G) {x : Code} {Q : Exit → VS → Prop} {T : List (Nat × VV)} {sz : Nat} {H : List (Nat × Option (List VV))} {n : Nat} {X : Type} (ren : List (Nat × Option Nat)) (n' : Nat) (T' : X → List (Nat × VV)) (H' : X → List (Nat × Option (List VV))) (I : X → Prop) (μ : X → Nat) (x0 : X)
    (hok : renOk ren n' = true) (hT : convT ren (frz ren H) T (T' x0)) (hH : convH ren (frz ren H) H (H' x0)) (hI : I x0)
    (h : ∀ y, I y → VWP P G K x (VThen (fun σ' => ∃ z, Sub G K σ' ⟨T' z, sz, H' z, n'⟩ ∧ I z ∧ μ z < μ y) Q) ⟨T' y, sz, H' y, n'⟩) (hK : anchOk K ren = true := by rfl) : VLoop P G K x Q ⟨T, sz, H, n⟩ :=
  vloop_invP (fun y => ⟨T' y, sz, H' y, n'⟩) I μ x0 (sub_conv hG ren rfl hok hT hH hK) hI h
/-- A loop, from a state told anew. -/
theorem vloop_clean (hG : GOk G) {x : Code} {Q : Exit → VS → Prop} {T : List (Nat × VV)} {sz : Nat} {H : List (Nat × Option (List VV))} {n : Nat} (ren : List (Nat × Option Nat)) (n' : Nat) (T' : List (Nat × VV)) (H' : List (Nat × Option (List VV)))
    (hok : renOk ren n' = true) (hT : convT ren (frz ren H) T T') (hH : convH ren (frz ren H) H H') (h : VLoop P G K x Q ⟨T', sz, H', n'⟩) (hK : anchOk K ren = true := by rfl) : VLoop P G K x Q ⟨T, sz, H, n⟩ :=
  vloop_sub (sub_conv hG (σ' := ⟨T', sz, H', n'⟩) ren rfl hok hT hH hK) h
/-- The end of a round. -/
theorem next_round (hG : GOk G) {T : List (Nat × VV)} {sz : Nat} {H : List (Nat × Option (List VV))} {n : Nat} {X : Type} {n' : Nat} {T' : X → List (Nat × VV)} {H' : X → List (Nat × Option (List VV))} {I : X → Prop} {μ : X → Nat} {y : X} (z : X) (ren : List (Nat × Option Nat))
    (hok : renOk ren n' = true) (hT : convT ren (frz ren H) T (T' z)) (hH : convH ren (frz ren H) H (H' z)) (hI : I z) (hm : μ z < μ y) (hK : anchOk K ren = true := by rfl) : ∃ z, Sub G K ⟨T, sz, H, n⟩ ⟨T' z, sz, H' z, n'⟩ ∧ I z ∧ μ z < μ y :=
  ⟨z, sub_conv hG ren rfl hok hT hH hK, hI, hm⟩
end
/-! Contracts of functions that are handed blocks, or hand blocks back. -/

mutual
/-- Handles under other names. -/
def rnV (f : Nat → Nat) : VV → VV
  | .v x => .v x
  | .agg cs => .agg (rnVs f cs)
  | .tup cs => .tup (rnVs f cs)
  | .ptr h o => .ptr (f h) o
  | .mp h => .mp (f h)
  | .it h => .it (f h)
  | .sl h o n w => .sl (f h) o n w
  | .ds b n es => .ds b n es
  | .dp es o => .dp es o
  | .fn g caps => .fn g (rnVs f caps)
  | .ifc t x => .ifc t (rnV f x)
  | .any => .any
def rnVs (f : Nat → Nat) : List VV → List VV
  | [] => []
  | c :: cs => rnV f c :: rnVs f cs
end
mutual
/-- No handle from k on is named; what is only read names none. -/
def lowV (k : Nat) : VV → Bool
  | .v _ => true
  | .agg cs => lowVs k cs
  | .tup cs => lowVs k cs
  | .ptr h _ => Nat.blt h k
  | .mp h => Nat.blt h k
  | .it h => Nat.blt h k
  | .sl h _ _ _ => Nat.blt h k
  | .ds _ _ es => noHs es
  | .dp es _ => noHs es
  | .fn _ caps => lowVs k caps
  | .ifc _ x => lowV k x
  | .any => true
def lowVs (k : Nat) : List VV → Bool
  | [] => true
  | c :: cs => lowV k c && lowVs k cs
end
mutual
theorem lowV_noH {k : Nat} : ∀ {v : VV}, noH v = true → lowV k v = true
  | .v _, _ => rfl
  | .agg cs, h => lowVs_noHs (v := cs) h
  | .tup cs, h => lowVs_noHs (v := cs) h
  | .ptr _ _, h => by simp [noH] at h
  | .mp _, h => by simp [noH] at h
  | .it _, h => by simp [noH] at h
  | .sl _ _ _ _, h => by simp [noH] at h
  | .ds _ _ es, h => h
  | .dp es _, h => h
  | .fn _ caps, h => lowVs_noHs (v := caps) h
  | .ifc _ x, h => lowV_noH (v := x) h
  | .any, _ => rfl
theorem lowVs_noHs {k : Nat} : ∀ {v : List VV}, noHs v = true → lowVs k v = true
  | [], _ => rfl
  | c :: cs, h => by
    simp only [noHs, Bool.and_eq_true] at h
    simp only [lowVs, Bool.and_eq_true]
    exact ⟨lowV_noH h.1, lowVs_noHs h.2⟩
end
section
variable {f : Nat → Nat} {k : Nat} {E E' : Env} (hS : ∀ b, E.A b → b < E.w.heap.size → E'.A b) (hw : E'.w = E.w) (hρ : ∀ h, h < k → E'.ρ (f h) = E.ρ h)
include hS hw hρ
mutual
theorem rnV_ok : ∀ (v : VV) {u : Value}, lowV k v = true → VR E v u → VR E' (rnV f v) u
  | .v x, u, _, h => by simpa [VR, rnV] using h
  | .agg cs, u, hn, h => by
    simp only [VR, rnV] at h ⊢
    obtain ⟨us, rfl, h1, h2⟩ := h
    exact ⟨us, rfl, rnVs_ok cs hn h1, h2⟩
  | .tup cs, u, hn, h => by
    simp only [VR, rnV] at h ⊢
    obtain ⟨us, rfl, h1⟩ := h
    exact ⟨us, rfl, rnVs_ok cs hn h1⟩
  | .ptr h o, u, hn, hh => by
    simp only [VR, rnV] at hh ⊢
    obtain ⟨b, h1, rfl, h2⟩ := hh
    exact ⟨b, by rw [hρ h (by simpa [lowV, Nat.blt_eq] using hn)]; exact h1, rfl, by rw [hw]; exact h2⟩
  | .it h, u, hn, hh => by
    simp only [VR, rnV] at hh ⊢
    obtain ⟨b, h1, rfl⟩ := hh
    exact ⟨b, by rw [hρ h (by simpa [lowV, Nat.blt_eq] using hn)]; exact h1, rfl⟩
  | .mp h, u, hn, hh => by
    simp only [VR, rnV] at hh ⊢
    obtain ⟨b, h1, rfl, h2⟩ := hh
    exact ⟨b, by rw [hρ h (by simpa [lowV, Nat.blt_eq] using hn)]; exact h1, rfl, by rw [hw]; exact h2⟩
  | .sl h o n w, u, hn, hh => by
    simp only [VR, rnV] at hh ⊢
    have e := hρ h (by simpa [lowV, Nat.blt_eq] using hn)
    rw [e, hw]
    exact hh
  | .ds b n es, u, hn, h => by
    have h2 : VR E' (.ds b n es) u := by
      have hs : E.Same E' := ⟨fun b hb ha => ⟨hS b ha hb, by rw [hw]; exact hb, by rw [hw]⟩⟩
      exact VR.same hs _ (by simpa [noH, lowV] using hn) h
    simpa [rnV] using h2
  | .dp es o, u, hn, h => by
    have h2 : VR E' (.dp es o) u := by
      have hs : E.Same E' := ⟨fun b hb ha => ⟨hS b ha hb, by rw [hw]; exact hb, by rw [hw]⟩⟩
      exact VR.same hs _ (by simpa [noH, lowV] using hn) h
    simpa [rnV] using h2
  | .fn g caps, u, hn, h => by
    simp only [VR, rnV] at h ⊢
    obtain ⟨us, rfl, h1⟩ := h
    exact ⟨us, rfl, rnVs_ok caps hn h1⟩
  | .ifc t x, u, hn, h => by
    simp only [VR, rnV] at h ⊢
    obtain ⟨u', rfl, h1⟩ := h
    exact ⟨u', rfl, rnV_ok x hn h1⟩
  | .any, u, _, _ => by simp [VR, rnV]
theorem rnVs_ok : ∀ (vs : List VV) {us : List Value}, lowVs k vs = true → VRs E vs us → VRs E' (rnVs f vs) us
  | [], us, _, h => by simpa [VRs, rnVs] using h
  | c :: cs, us, hn, h => by
    simp only [lowVs, Bool.and_eq_true] at hn
    simp only [VRs, rnVs] at h ⊢
    obtain ⟨u, us', rfl, h1, h2⟩ := h
    exact ⟨u, us', rfl, rnV_ok c hn.1 h1, rnVs_ok cs hn.2 h2⟩
end
end
section
variable {f : Nat → Nat} {k : Nat} {E E' : Env} (hS : ∀ b, E.A b → b < E.w.heap.size → E'.A b) (hw : E'.w = E.w) (hρ : ∀ h, h < k → E'.ρ h = E.ρ (f h))
include hS hw hρ
mutual
theorem unV_ok : ∀ (v : VV) {u : Value}, lowV k v = true → VR E (rnV f v) u → VR E' v u
  | .v x, u, _, h => by simpa [VR, rnV] using h
  | .agg cs, u, hn, h => by
    simp only [VR, rnV] at h ⊢
    obtain ⟨us, rfl, h1, h2⟩ := h
    exact ⟨us, rfl, unVs_ok cs hn h1, h2⟩
  | .tup cs, u, hn, h => by
    simp only [VR, rnV] at h ⊢
    obtain ⟨us, rfl, h1⟩ := h
    exact ⟨us, rfl, unVs_ok cs hn h1⟩
  | .ptr h o, u, hn, hh => by
    simp only [VR, rnV] at hh ⊢
    obtain ⟨b, h1, rfl, h2⟩ := hh
    exact ⟨b, by rw [hρ h (by simpa [lowV, Nat.blt_eq] using hn)]; exact h1, rfl, by rw [hw]; exact h2⟩
  | .it h, u, hn, hh => by
    simp only [VR, rnV] at hh ⊢
    obtain ⟨b, h1, rfl⟩ := hh
    exact ⟨b, by rw [hρ h (by simpa [lowV, Nat.blt_eq] using hn)]; exact h1, rfl⟩
  | .mp h, u, hn, hh => by
    simp only [VR, rnV] at hh ⊢
    obtain ⟨b, h1, rfl, h2⟩ := hh
    exact ⟨b, by rw [hρ h (by simpa [lowV, Nat.blt_eq] using hn)]; exact h1, rfl, by rw [hw]; exact h2⟩
  | .sl h o n w, u, hn, hh => by
    simp only [VR, rnV] at hh ⊢
    have e := hρ h (by simpa [lowV, Nat.blt_eq] using hn)
    rw [e, hw]
    exact hh
  | .ds b n es, u, hn, h => by
    have hs : E.Same E' := ⟨fun b hb ha => ⟨hS b ha hb, by rw [hw]; exact hb, by rw [hw]⟩⟩
    exact VR.same hs _ (by simpa [noH, lowV] using hn) (by simpa [rnV] using h)
  | .dp es o, u, hn, h => by
    have hs : E.Same E' := ⟨fun b hb ha => ⟨hS b ha hb, by rw [hw]; exact hb, by rw [hw]⟩⟩
    exact VR.same hs _ (by simpa [noH, lowV] using hn) (by simpa [rnV] using h)
  | .fn g caps, u, hn, h => by
    simp only [VR, rnV] at h ⊢
    obtain ⟨us, rfl, h1⟩ := h
    exact ⟨us, rfl, unVs_ok caps hn h1⟩
  | .ifc t x, u, hn, h => by
    simp only [VR, rnV] at h ⊢
    obtain ⟨u', rfl, h1⟩ := h
    exact ⟨u', rfl, unV_ok x hn h1⟩
  | .any, u, _, _ => by simp [VR]
theorem unVs_ok : ∀ (vs : List VV) {us : List Value}, lowVs k vs = true → VRs E (rnVs f vs) us → VRs E' vs us
  | [], us, _, h => by simpa [VRs, rnVs] using h
  | c :: cs, us, hn, h => by
    simp only [lowVs, Bool.and_eq_true] at hn
    simp only [VRs, rnVs] at h ⊢
    obtain ⟨u, us', rfl, h1, h2⟩ := h
    exact ⟨u, us', rfl, unV_ok c hn.1 h1, unVs_ok cs hn.2 h2⟩
end
end
/-- What a call of g comes to that is handed the blocks H (their handles are those below k) and hands back m new ones. -/
def FnH (P : Program) (G : Globs) (g : FuncId) (vargs : List VV) (H : HL) (k : Nat) (res : VV) (H' : HL) (m : Nat) : Prop :=
  ∀ (c : Cf) (args : Array Value), HRel c → Glob G c → c.look = lk H → (∀ h, h < k → c.ρ h ≠ none) → (∀ h, k ≤ h → c.ρ h = none) → VRs c.env vargs args.toList →
    FGoes P g args c.w fun u w' => ∃ c', c'.w = w' ∧ HRel c' ∧ c'.look = lk H' ∧ VR c'.env res u ∧ Le c c' ∧ newOnly c.ρ c'.ρ k m
/-- Where such a function ends. -/
def EndsH (Γ : Tab) (rs : List ResultVar) (k : Nat) (res : VV) (H' : HL) (m : Nat) : Exit → VS → Prop
  | .ret, σ => ∃ v, vres Γ rs σ = some v ∧ ∃ ren, renOk ren (k + m) = true ∧ anchOk k ren = true ∧ Conv ren (frz ren σ.H) v res ∧ convH ren (frz ren σ.H) σ.H H'
  | .normal, σ => ∃ v, vres Γ rs σ = some v ∧ ∃ ren, renOk ren (k + m) = true ∧ anchOk k ren = true ∧ Conv ren (frz ren σ.H) v res ∧ convH ren (frz ren σ.H) σ.H H'
  | _, _ => False
section
variable {P : Program} {Γ : Tab} {G : Globs}
theorem fnH_of_vwp (hΓ : TabOk P Γ) (hG : GOk G) {g : FuncId} {fn : Func} {code : Code} (hf : P.funcs[g]? = some fn) (hname : (fn.name == "runtime.NumGoroutine") = false) (hb : fn.body = some code) {vargs : List VV} {H : HL} {k : Nat} {res : VV} {H' : HL} {m : Nat}
    (hnt : vargs.length ≤ fn.ntmps) (h : VWP P G k code (EndsH Γ fn.results.toList k res H' m) ⟨args0 0 vargs, fn.ntmps, H, k⟩) : FnH P G g vargs H k res H' m := by
  intro c args HR hglob hlook hin hfresh hargs
  unfold FGoes
  have hent : (callFunc g args).run P c.w = .ok (.enter g args) c.w := by
    have h1 : fn.name ≠ "runtime.NumGoroutine" := by simpa using hname
    simp [callFunc, hf, h1, hb]
  rw [hent]
  refine calls_of_wp hf hb ?_
  have hlen := hargs.length
  have hs : St G c ⟨args0 0 vargs, fn.ntmps, H, k⟩ { tmps := args ++ Array.replicate (fn.ntmps - args.size) undef, defers := [] } := by
    have hsz : args.size = vargs.length := by simpa using hlen
    refine ⟨?_, ?_, rfl, hlook, HR, hfresh, hglob⟩
    · refine args0_ok vargs 0 args.toList _ hargs fun j u hj => ?_
      have hj' : args[j]? = some u := by simpa using hj
      rw [Nat.zero_add, Array.getElem?_append_left (Array.getElem?_eq_some_iff.1 hj').1]
      exact hj'
    · simp only [Array.size_append, Array.size_replicate]
      show args.size + (fn.ntmps - args.size) = fn.ntmps
      omega
  refine Go.wp_mono (h.out c _ hs) fun e a' w' ⟨c1, σ1, hw, hq, hs1, hle⟩ => ?_
  have fin : (∃ v, vres Γ fn.results.toList σ1 = some v ∧ ∃ ren, renOk ren (k + m) = true ∧ anchOk k ren = true ∧ Conv ren (frz ren σ1.H) v res ∧ convH ren (frz ren σ1.H) σ1.H H') →
      a'.defers = [] ∧ ∃ v, (results fn a'.tmps).run P w' = .ok v w' ∧ ∃ u, Ending.returned v = .returned u ∧ ∃ c', c'.w = w' ∧ HRel c' ∧ c'.look = lk H' ∧ VR c'.env res u ∧ Le c c' ∧ newOnly c.ρ c'.ρ k m := by
    rintro ⟨v, h1, ren, r1, r2, h2, h3⟩
    obtain ⟨u, h4, h5⟩ := vres_ok hΓ hs1 h1
    subst hw
    obtain ⟨c2, q1, q2, q3, q4, q5⟩ := conv_cfg hG (σ := σ1) (σ' := ⟨[], σ1.sz, H', k + m⟩) ren rfl r1 trivial h3 r2 hs1
    have hle2 : LeW k c c2 := hle.trans q3
    refine ⟨hs1.defers, u, h4, u, rfl, c2, q1, q2.heap, q2.look, q4 _ _ _ h2 h5, ?_, fun x hx => ?_⟩
    · refine ⟨⟨hle2.size, fun x y e => ?_, hle2.A, hle2.shape, hle2.mshape⟩, hle2.os, hle2.tape, hle2.output, hle2.block, hle2.back⟩
      have e' : c.ρ x = some y := e
      rcases Nat.lt_or_ge x k with hx | hx
      · exact hle2.anc x y hx e'
      · rw [hfresh x hx] at e'; cases e'
    · have := q5 x hx
      have hx2 : x < k + m := this
      rcases Nat.lt_or_ge x k with h6 | h6
      · exact .inl (hin x h6)
      · exact .inr ⟨h6, hx2⟩
  cases e with
  | ret => exact fin hq
  | normal => exact fin hq
  | exit id => exact hq.elim
  | goto l => exact hq.elim
  | panic ch => exact hq.elim
  | outgrown => exact hq.elim

/-- The caller's names of a callee's handles. -/
def hmap (σl : List Nat) (k n j : Nat) : Nat := match Nat.blt j k with
  | true => σl.getD j 0
  | false => n + (j - k)
/-- The blocks handed over are what the contract says. -/
def inH (lkf : Nat → Option (List VV)) (f : Nat → Nat) (k : Nat) (H : HL) : Nat → Prop
  | 0 => True
  | j + 1 => inH lkf f k H j ∧ ∃ cs, lk H j = some cs ∧ lowVs k cs = true ∧ lkf (f j) = some (rnVs f cs)
def outH (K : Nat) (H : HL) : Nat → Prop
  | 0 => True
  | j + 1 => outH K H j ∧ ∀ cs, lk H j = some cs → lowVs K cs = true
theorem inH_at {lkf : Nat → Option (List VV)} {f : Nat → Nat} {k : Nat} {H : HL} : ∀ {q : Nat}, inH lkf f k H q → ∀ j, j < q → ∃ cs, lk H j = some cs ∧ lowVs k cs = true ∧ lkf (f j) = some (rnVs f cs)
  | 0, _, j, hj => by omega
  | q + 1, h, j, hj => by
    by_cases e : j = q
    · subst e; exact h.2
    · exact inH_at h.1 j (by omega)
theorem outH_at {K : Nat} {H : HL} : ∀ {q : Nat}, outH K H q → ∀ j, j < q → ∀ cs, lk H j = some cs → lowVs K cs = true
  | 0, _, j, hj => by omega
  | q + 1, h, j, hj => by
    by_cases e : j = q
    · subst e; exact h.2
    · exact outH_at h.1 j (by omega)
def updH (f : Nat → Nat) (H : HL) : Nat → HL
  | 0 => []
  | j + 1 => updH f H j ++ [(f j, match lk H j with | some cs => some (rnVs f cs) | none => none)]
theorem fup_append : ∀ (u v : HL) (g : Nat → Option (List VV)), fup g (u ++ v) = fup (fup g u) v
  | [], _, _ => rfl
  | (h, x) :: u, v, g => by simp only [List.cons_append, fup]; exact fup_append u v _
theorem fup_updH {f : Nat → Nat} {H : HL} {g : Nat → Option (List VV)} : ∀ {q : Nat}, (∀ i j, i < q → j < q → f i = f j → i = j) → (∀ j, j < q → fup g (updH f H q) (f j) = (lk H j).map (rnVs f)) ∧ (∀ h, (∀ j, j < q → f j ≠ h) → fup g (updH f H q) h = g h)
  | 0, _ => ⟨fun j hj => by omega, fun h _ => rfl⟩
  | q + 1, hi => by
    obtain ⟨h1, h2⟩ := fup_updH (g := g) (H := H) (q := q) (f := f) fun i j a b => hi i j (by omega) (by omega)
    refine ⟨fun j hj => ?_, fun h hh => ?_⟩
    · simp only [updH, fup_append, fup]
      by_cases e : f j = f q
      · have := hi j q hj (by omega) e
        subst this
        rw [if_pos rfl]
        cases lk H j <;> rfl
      · rw [if_neg e]
        exact h1 j (by
          rcases Nat.lt_or_ge j q with h | h
          · exact h
          · have : j = q := by omega
            subst this; exact absurd rfl e)
    · simp only [updH, fup_append, fup]
      rw [if_neg (Ne.symm (hh q (by omega)))]
      exact h2 h fun j hj => hh j (by omega)
theorem mem_updH {f : Nat → Nat} {H : HL} : ∀ {q : Nat} {p : Nat × Option (List VV)}, p ∈ updH f H q → ∃ j, j < q ∧ p.1 = f j
  | 0, p, h => by cases h
  | q + 1, p, h => by
    simp only [updH, List.mem_append, List.mem_singleton] at h
    rcases h with h | rfl
    · obtain ⟨j, h1, h2⟩ := mem_updH h
      exact ⟨j, by omega, h2⟩
    · exact ⟨q, by omega, rfl⟩
theorem lk_mem : ∀ {H : HL} {h : Nat} {cs : List VV}, lk H h = some cs → ∃ p ∈ H, p.1 = h
  | [], h, cs, e => by cases e
  | (k, x) :: l, h, cs, e => by
    rw [lk_cons] at e
    split at e
    · rename_i e1; subst e1; exact ⟨(h, x), by simp, rfl⟩
    · obtain ⟨p, h1, h2⟩ := lk_mem e
      exact ⟨p, by simp [h1], h2⟩

theorem ret_of_fnH (hG : GOk G) {g : FuncId} {vargs : List VV} {H : HL} {k : Nat} {res : VV} {H' : HL} {m : Nat} (h : FnH P G g vargs H k res H' m) (σl : List Nat) {lkf : Nat → Option (List VV)} {n : Nat}
    (hlen : σl.length = k) (hnd : noDup σl = true) (hHk : (H.all fun p => Nat.blt p.1 k) = true) (hv : lowVs k vargs = true) (hr : lowV (k + m) res = true)
    (hin : inH lkf (hmap σl k n) k H k) (hout : outH (k + m) H' (k + m)) :
    Ret P G g (rnVs (hmap σl k n) vargs) lkf n ⟨rnV (hmap σl k n) res, σl, updH (hmap σl k n) H' (k + m), m⟩ := by
  have fin : ∀ j, j < k → hmap σl k n j = σl.getD j 0 := fun j hj => by
    simp only [hmap]; rw [show Nat.blt j k = true by simpa [Nat.blt_eq] using hj]
  have fout : ∀ i, hmap σl k n (k + i) = n + i := fun i => by
    simp only [hmap]; rw [show Nat.blt (k + i) k = false by rw [Bool.eq_false_iff, ne_eq, Nat.blt_eq]; omega]; simp
  have fmem : ∀ j, j < k → hmap σl k n j ∈ σl := fun j hj => by
    rw [fin j hj, List.getD_eq_getElem?_getD, List.getElem?_eq_getElem (by omega)]
    exact List.getElem_mem _
  generalize hf : hmap σl k n = f at *
  refine ⟨fun p hp => ?_, fun c args HR hglob hargs hrd hfr => ?_⟩
  · obtain ⟨j, h1, h2⟩ := mem_updH hp
    rcases Nat.lt_or_ge j k with h3 | h3
    · exact .inl (by rw [h2]; exact fmem j h3)
    · refine .inr ?_
      have := fout (j - k)
      rw [show k + (j - k) = j by omega] at this
      rw [h2, this]
      show n ≤ n + (j - k) ∧ n + (j - k) < n + m
      omega
  have hlook : ∀ j, j < k → ∃ cs, lk H j = some cs ∧ lowVs k cs = true ∧ c.look (f j) = some (rnVs f cs) := fun j hj => by
    obtain ⟨cs, h1, h2, h3⟩ := inH_at hin j hj
    exact ⟨cs, h1, h2, by rw [hrd _ (fmem j hj)]; exact h3⟩
  have hρin : ∀ j, j < k → ∃ x, c.ρ (f j) = some x := fun j hj => by
    obtain ⟨cs, _, _, h3⟩ := hlook j hj
    rcases HR.blk _ _ h3 with ⟨h4, _⟩ | ⟨b, h4, _⟩ <;> exact ⟨_, h4⟩
  have finj : ∀ i j, i < k + m → j < k + m → f i = f j → i = j := by
    intro i j hi hj e
    rcases Nat.lt_or_ge i k with h1 | h1 <;> rcases Nat.lt_or_ge j k with h2 | h2
    · rw [fin i h1, fin j h2] at e
      have hp := noDup_pairwise hnd
      rw [List.pairwise_iff_getElem] at hp
      rw [List.getD_eq_getElem?_getD, List.getD_eq_getElem?_getD, List.getElem?_eq_getElem (show i < σl.length by omega), List.getElem?_eq_getElem (show j < σl.length by omega)] at e
      rcases Nat.lt_trichotomy i j with h | h | h
      · exact absurd e (hp i j (by omega) (by omega) h)
      · exact h
      · exact absurd e.symm (hp j i (by omega) (by omega) h)
    · obtain ⟨x, hx⟩ := hρin i h1
      have h3 := fout (j - k)
      rw [show k + (j - k) = j by omega] at h3
      rw [e, h3, hfr _ (show j - k < m by omega)] at hx; cases hx
    · obtain ⟨x, hx⟩ := hρin j h2
      have h3 := fout (i - k)
      rw [show k + (i - k) = i by omega] at h3
      rw [← e, h3, hfr _ (show i - k < m by omega)] at hx; cases hx
    · have h3 := fout (i - k)
      have h4 := fout (j - k)
      rw [show k + (i - k) = i by omega] at h3
      rw [show k + (j - k) = j by omega] at h4
      rw [h3, h4] at e; omega
  -- the callee's configuration
  let c0 : Cf := ⟨fun j => if j < k then c.ρ (f j) else none, c.A, lk H, c.w⟩
  have hHlow : ∀ j cs, lk H j = some cs → j < k := fun j cs e => by
    obtain ⟨p, h1, h2⟩ := lk_mem e
    have := List.all_eq_true.1 hHk p h1
    rw [Nat.blt_eq] at this
    omega
  have un : ∀ (vs : List VV) (us : List Value), lowVs k vs = true → VRs c.env (rnVs f vs) us → VRs c0.env vs us := fun vs us h1 h2 =>
    unVs_ok (E := c.env) (E' := c0.env) (fun b ha _ => ha) rfl (fun j hj => by show (if j < k then c.ρ (f j) else none) = c.ρ (f j); rw [if_pos hj]) vs h1 h2
  have rnl : ∀ vs : List VV, (rnVs f vs).length = vs.length := fun vs => by
    induction vs with
    | nil => rfl
    | cons v vs ih => simp [rnVs, ih]
  have H0 : HRel c0 := by
    refine ⟨fun j cs e => ?_, fun i j cs cs' b e1 e2 e3 e4 => ?_⟩
    · have hj := hHlow j cs e
      obtain ⟨cs', h1, h2, h3⟩ := hlook j hj
      have e' : lk H j = some cs := e
      rw [e'] at h1; cases h1
      have hρj : c0.ρ j = c.ρ (f j) := if_pos hj
      rcases HR.blk _ _ h3 with ⟨h4, h5⟩ | ⟨b, h4, h5, ⟨us, T, fr, h6, h7, h8, h9, h10⟩ | ⟨es, m', h6, h9, h10⟩⟩
      · refine .inl ⟨by rw [hρj]; exact h4, ?_⟩
        have := rnl cs
        rw [h5] at this
        exact List.eq_nil_of_length_eq_zero this.symm
      · rw [rnl] at h8 h9 h10
        exact .inr ⟨b, by rw [hρj]; exact h4, h5, .inl ⟨us, T, fr, h6, h7, h8, un _ _ h2 h9, h10⟩⟩
      · exact .inr ⟨b, by rw [hρj]; exact h4, h5, .inr ⟨es, m', h6, un _ _ h2 h9, h10⟩⟩
    · have hi := hHlow i cs e1
      have hj := hHlow j cs' e2
      obtain ⟨x1, _, _, h3⟩ := hlook i hi
      obtain ⟨x2, _, _, h4⟩ := hlook j hj
      have e3' : c.ρ (f i) = some (some b) := by rw [← e3]; exact (if_pos hi).symm
      have e4' : c.ρ (f j) = some (some b) := by rw [← e4]; exact (if_pos hj).symm
      exact finj i j (by omega) (by omega) (HR.inj _ _ _ _ b h3 h4 e3' e4')
  have own0 : ∀ b, c0.Owned b → c.Owned b := by
    rintro b ⟨j, cs, e1, e2⟩
    have hj := hHlow j cs e1
    obtain ⟨x, _, _, h3⟩ := hlook j hj
    exact ⟨f j, _, h3, by rw [← e2]; exact (if_pos hj).symm⟩
  have key := h c0 args H0 (fun g es e => VR.same (E := c.env) (E' := c0.env) ⟨fun b hb ha => ⟨ha, hb, rfl⟩⟩ _ (by simpa [noH] using hG g es e) (hglob g es e)) rfl (fun j hj e => by
      obtain ⟨x, hx⟩ := hρin j hj
      have e' : (if j < k then c.ρ (f j) else none) = none := e
      rw [if_pos hj, hx] at e'; cases e') (fun j hj => if_neg (by omega)) (un _ _ hv hargs)
  refine fgoes_mono key fun u w' ⟨c1, w1, H1, l1, v1, le1, no1⟩ => ?_
  subst w1
  let c2 : Cf := ⟨fun h => if n ≤ h ∧ h < n + m then c1.ρ (k + (h - n)) else c.ρ h, c1.A, fup c.look (updH f H' (k + m)), c1.w⟩
  have range : ∀ h x, c.ρ h = some x → ¬ (n ≤ h ∧ h < n + m) := fun h x e hh => by
    have := hfr (h - n) (show h - n < m by omega)
    rw [show n + (h - n) = h by omega, e] at this; cases this
  have ρ1 : ∀ j, j < k → c1.ρ j = c.ρ (f j) := fun j hj => by
    obtain ⟨x, hx⟩ := hρin j hj
    rw [hx]
    exact le1.keep.ρ j x (show (if j < k then c.ρ (f j) else none) = some x by rw [if_pos hj]; exact hx)
  have ρ2 : ∀ j, j < k + m → c2.ρ (f j) = c1.ρ j := fun j hj => by
    rcases Nat.lt_or_ge j k with h1 | h1
    · obtain ⟨x, hx⟩ := hρin j h1
      rw [ρ1 j h1]
      exact if_neg (range _ _ hx)
    · have h3 := fout (j - k)
      rw [show k + (j - k) = j by omega] at h3
      rw [h3]
      show (if n ≤ n + (j - k) ∧ n + (j - k) < n + m then c1.ρ (k + (n + (j - k) - n)) else c.ρ (n + (j - k))) = c1.ρ j
      rw [if_pos ⟨by omega, by omega⟩]
      congr 1; omega
  have rn : ∀ (v : VV) (u : Value), lowV (k + m) v = true → VR c1.env v u → VR c2.env (rnV f v) u := fun v u => rnV_ok (E := c1.env) (E' := c2.env) (fun b ha _ => ha) rfl ρ2 v
  have rns : ∀ (vs : List VV) (us : List Value), lowVs (k + m) vs = true → VRs c1.env vs us → VRs c2.env (rnVs f vs) us := fun vs us => rnVs_ok (E := c1.env) (E' := c2.env) (fun b ha _ => ha) rfl ρ2 vs
  obtain ⟨look1, look2⟩ := fup_updH (H := H') (g := c.look) finj
  have keep : c.env.Keep c2.env := ⟨le1.keep.size, fun h x e => by
    have e' : c.ρ h = some x := e
    show (if n ≤ h ∧ h < n + m then c1.ρ (k + (h - n)) else c.ρ h) = some x
    rw [if_neg (range h x e')]; exact e', le1.keep.A, le1.keep.shape, le1.keep.mshape⟩
  have split2 : ∀ h cs, c2.look h = some cs → (∃ j cs0, j < k + m ∧ h = f j ∧ lk H' j = some cs0 ∧ cs = rnVs f cs0) ∨ ((∀ j, j < k + m → f j ≠ h) ∧ c.look h = some cs) := fun h cs e => by
    by_cases hx : ∃ j, j < k + m ∧ f j = h
    · obtain ⟨j, hj, rfl⟩ := hx
      have e' : fup c.look (updH f H' (k + m)) (f j) = some cs := e
      rw [look1 j hj] at e'
      cases hl : lk H' j with
      | none => rw [hl] at e'; cases e'
      | some cs0 => rw [hl] at e'; cases e'; exact .inl ⟨j, cs0, hj, rfl, hl, rfl⟩
    · have hx' : ∀ j, j < k + m → f j ≠ h := fun j hj e => hx ⟨j, hj, e⟩
      have e' : fup c.look (updH f H' (k + m)) h = some cs := e
      rw [look2 h hx'] at e'
      exact .inr ⟨hx', e'⟩
  have oldb : ∀ h cs b, (∀ j, j < k + m → f j ≠ h) → c.look h = some cs → c.ρ h = some (some b) → b < c.w.heap.size ∧ ¬ c.A b ∧ ¬ c0.Owned b := fun h cs b hn hl hr => by
    rcases HR.blk h cs hl with ⟨h1, _⟩ | ⟨b', h1, h3⟩
    · rw [hr] at h1; cases h1
    · rw [hr] at h1; cases h1
      refine ⟨h3.lt, h3.1, ?_⟩
      rintro ⟨j, cs', e1, e2⟩
      have hj := hHlow j cs' e1
      obtain ⟨x, _, _, h4⟩ := hlook j hj
      have e2' : c.ρ (f j) = some (some b) := by rw [← e2]; exact (if_pos hj).symm
      exact hn j (by omega) (HR.inj _ _ _ _ b h4 hl e2' hr)
  have ρold : ∀ h x, c.ρ h = some x → c2.ρ h = some x := fun h x e => keep.ρ h x e
  have ρnew : ∀ h cs, (∀ j, j < k + m → f j ≠ h) → c.look h = some cs → c2.ρ h = c.ρ h := fun h cs _ hl => by
    rcases HR.blk h cs hl with ⟨h1, _⟩ | ⟨b, h1, _⟩ <;> rw [h1] <;> exact ρold _ _ h1
  have ownj : ∀ j cs0 b, j < k + m → lk H' j = some cs0 → c2.ρ (f j) = some (some b) → c1.Owned b := fun j cs0 b hj hl hr => ⟨j, cs0, by rw [l1]; exact hl, by rw [← ρ2 j hj]; exact hr⟩
  refine ⟨c2, rfl, ⟨fun h cs e => ?_, fun h h' cs cs' b e1 e2 e3 e4 => ?_⟩, rfl, rn _ _ hr v1, ⟨keep, le1.os, le1.tape, le1.output, fun b hb ho => ?_, fun b hb => ?_⟩, fun h hh => ?_⟩
  · rcases split2 h cs e with ⟨j, cs0, hj, rfl, hl, rfl⟩ | ⟨hn, hl⟩
    · rcases H1.blk j cs0 (by rw [l1]; exact hl) with ⟨h1, h2⟩ | ⟨b, h1, h2, ⟨us, T, fr, h3, h4, h5, h6, h7⟩ | ⟨es, m', h3, h6, h7⟩⟩
      · exact .inl ⟨by rw [ρ2 j hj]; exact h1, by subst h2; rfl⟩
      · refine .inr ⟨b, by rw [ρ2 j hj]; exact h1, h2, .inl ⟨us, T, fr, h3, h4, by rw [rnl]; exact h5, ?_, by rw [rnl]; exact h7⟩⟩
        rw [rnl]
        exact rns _ _ (outH_at hout j hj cs0 hl) h6
      · exact .inr ⟨b, by rw [ρ2 j hj]; exact h1, h2, .inr ⟨es, m', h3, rns _ _ (outH_at hout j hj cs0 hl) h6, h7⟩⟩
    · rcases HR.blk h cs hl with ⟨h1, h2⟩ | ⟨b, h1, h2⟩
      · exact .inl ⟨ρold _ _ h1, h2⟩
      · obtain ⟨g1, g2, g3⟩ := oldb h cs b hn hl h1
        refine .inr ⟨b, ρold _ _ h1, h2.keep keep ?_ (le1.block b g1 g3).1⟩
        intro ha
        rcases le1.back b ha with h4 | h4 | h4
        · exact g2 h4
        · exact g3 h4
        · have : c.w.heap.size ≤ b := h4
          omega
  · rcases split2 h cs e1 with ⟨i, cs0, hi, rfl, hl, rfl⟩ | ⟨hn, hl⟩ <;> rcases split2 h' cs' e2 with ⟨j, cs1, hj, rfl, hl', rfl⟩ | ⟨hn', hl'⟩
    · rw [ρ2 i hi] at e3; rw [ρ2 j hj] at e4
      rw [H1.inj i j cs0 cs1 b (by rw [l1]; exact hl) (by rw [l1]; exact hl') e3 e4]
    · have ho := ownj i cs0 b hi hl e3
      rw [ρnew h' cs' hn' hl'] at e4
      obtain ⟨g1, g2, g3⟩ := oldb h' cs' b hn' hl' e4
      exact absurd ho (le1.block b g1 g3).2
    · have ho := ownj j cs1 b hj hl' e4
      rw [ρnew h cs hn hl] at e3
      obtain ⟨g1, g2, g3⟩ := oldb h cs b hn hl e3
      exact absurd ho (le1.block b g1 g3).2
    · rw [ρnew h cs hn hl] at e3; rw [ρnew h' cs' hn' hl'] at e4
      exact HR.inj _ _ _ _ b hl hl' e3 e4
  · have g3 : ¬ c0.Owned b := fun h => ho (own0 b h)
    obtain ⟨q1, q2⟩ := le1.block b hb g3
    refine ⟨q1, ?_⟩
    rintro ⟨h, cs, e1, e2⟩
    rcases split2 h cs e1 with ⟨j, cs0, hj, rfl, hl, rfl⟩ | ⟨hn, hl⟩
    · exact q2 (ownj j cs0 b hj hl e2)
    · rw [ρnew h cs hn hl] at e2
      exact ho ⟨h, cs, hl, e2⟩
  · rcases le1.back b hb with h4 | h4 | h4
    · exact .inl h4
    · exact .inr (.inl (own0 b h4))
    · exact .inr (.inr h4)
  · by_cases hx : n ≤ h ∧ h < n + m
    · exact .inr hx
    · refine .inl fun e => hh ?_
      show (if n ≤ h ∧ h < n + m then c1.ρ (k + (h - n)) else c.ρ h) = none
      rw [if_neg hx]; exact e
end
end Go.Proofs.Ytilmfdlonpjjiaa
