/- The engine, part 2: blocks; operations that read and write. -/
import Derived.Test.YtilmfdlonpjjiaaVa
namespace Go.Proofs.Ytilmfdlonpjjiaa
set_option linter.unusedVariables false
set_option linter.unusedSimpArgs false
set_option linter.unusedSectionVars false
open Go

def newOnly (ρ ρ' : Nat → Option (Option Nat)) (n m : Nat) : Prop := ∀ h, ρ' h ≠ none → ρ h ≠ none ∨ (n ≤ h ∧ h < n + m)
theorem newOnly.refl {ρ : Nat → Option (Option Nat)} {n m : Nat} : newOnly ρ ρ n m := fun _ h => .inl h
theorem newOnly.of_eq {ρ ρ' : Nat → Option (Option Nat)} {n m : Nat} (h : ρ' = ρ) : newOnly ρ ρ' n m := by subst h; exact newOnly.refl

theorem BlkAt.keep {E E' : Env} (k : E.Keep E') {b : Nat} {cs : List VV} (h : BlkAt E b cs) (hA : ¬ E'.A b) (hb : E'.w.heap[b]? = E.w.heap[b]?) : BlkAt E' b cs := by
  obtain ⟨_, ⟨us, T, fr, h1, h2, h3, h4, h5⟩ | ⟨es, m, h1, h2, h3⟩⟩ := h
  · exact ⟨hA, .inl ⟨us, T, fr, by rw [hb]; exact h1, h2, h3, VRs.keep k _ h4, h5⟩⟩
  · exact ⟨hA, .inr ⟨es, m, by rw [hb]; exact h1, VRs.keep k _ h2, h3⟩⟩

section
variable {c : Cf} (H : HRel c)
include H

/-- A new block, under a new handle. -/
theorem alloc_ok {n : Nat} (hn : c.ρ n = none) {w' : World} {us : Array Value} {T : TypeId} {fr : Nat × Nat} {cs : List VV} (h1 : w'.os = c.w.os) (h2 : w'.tape = c.w.tape) (h3 : w'.output = c.w.output)
    (h4 : w'.heap = c.w.heap.push (.cells us T fr)) (h5 : FrOk fr us.size) (h6 : cs.length ≤ us.size) (h7 : VRs c.env cs (us.toList.take cs.length)) (h8 : ones (us.toList.take cs.length)) :
    ∃ c', c'.w = w' ∧ HRel c' ∧ c'.look = (fun h' => if h' = n then some cs else c.look h') ∧ Le c c' ∧ c'.ρ n = some (some c.w.heap.size) ∧ newOnly c.ρ c'.ρ n 1 ∧ w'.heap[c.w.heap.size]? = some (.cells us T fr) := by
  have hold : ∀ b, b < c.w.heap.size → w'.heap[b]? = c.w.heap[b]? := fun b hb => by rw [h4, Array.getElem?_push, if_neg (by omega)]
  have hnew : w'.heap[c.w.heap.size]? = some (.cells us T fr) := by rw [h4]; simp
  let c' : Cf := ⟨fun h => if h = n then some (some c.w.heap.size) else c.ρ h, fun x => c.A x ∧ x ≠ c.w.heap.size, fun h' => if h' = n then some cs else c.look h', w'⟩
  have keep : c.env.Keep c'.env := by
    refine ⟨?_, fun h x hx => ?_, fun b hb ha => ⟨⟨ha, ?_⟩, hold b hb⟩, fun b us' T' fr' hb => ?_, fun b es' k' hb => ?_⟩
    · show c.w.heap.size ≤ w'.heap.size
      rw [h4]; simp
    · show (if h = n then some (some c.w.heap.size) else c.ρ h) = some x
      rw [if_neg]
      · exact hx
      · rintro rfl; have : c.ρ h = some x := hx; rw [hn] at this; cases this
    · have : b < c.w.heap.size := hb
      omega
    · have : b < c.w.heap.size := (Array.getElem?_eq_some_iff.1 hb).1
      exact ⟨us', fr', by show w'.heap[b]? = _; rw [hold b this]; exact hb, rfl⟩
    · have : b < c.w.heap.size := (Array.getElem?_eq_some_iff.1 hb).1
      exact ⟨es', k', by show w'.heap[b]? = _; rw [hold b this]; exact hb⟩
  have own : ∀ h cs' b, c.look h = some cs' → c.ρ h = some (some b) → b < c.w.heap.size := fun h cs' b hl hr => by
    rcases H.blk h cs' hl with ⟨h1, _⟩ | ⟨b', h1, h2⟩
    · rw [hr] at h1; cases h1
    · rw [hr] at h1; cases h1
      exact h2.lt
  refine ⟨c', rfl, ⟨fun h cs' hl => ?_, fun h h' cs1 cs2 b hl hl' hr hr' => ?_⟩, rfl, ⟨keep, h1, h2, h3, fun b hb ho => ⟨hold b hb, ?_⟩, fun b hb => .inl hb.1⟩, by simp [c'], fun h hh => ?_, hnew⟩
  · by_cases e : h = n
    · have : cs' = cs := by simp [c', e] at hl; exact hl.symm
      subst this
      refine .inr ⟨c.w.heap.size, by simp [c', e], fun ha => ha.2 rfl, .inl ⟨us, T, fr, hnew, h5, h6, VRs.keep keep _ h7, h8⟩⟩
    · simp only [c', if_neg e] at hl
      rcases H.blk h cs' hl with ⟨k1, k2⟩ | ⟨b, k1, k2⟩
      · exact .inl ⟨by simp only [c', if_neg e]; exact k1, k2⟩
      · have hb := own h cs' b hl k1
        exact .inr ⟨b, by simp only [c', if_neg e]; exact k1, k2.keep keep (fun ha => k2.1 ha.1) (hold b hb)⟩
  · simp only [c'] at hl hl' hr hr'
    by_cases e : h = n <;> by_cases e' : h' = n
    · rw [e, e']
    · rw [if_neg e'] at hl' hr'
      rw [if_pos e] at hr
      cases hr
      exact absurd (own h' cs2 _ hl' hr') (by omega)
    · rw [if_neg e] at hl hr
      rw [if_pos e'] at hr'
      cases hr'
      exact absurd (own h cs1 _ hl hr) (by omega)
    · rw [if_neg e] at hl hr
      rw [if_neg e'] at hl' hr'
      exact H.inj h h' cs1 cs2 b hl hl' hr hr'
  · rintro ⟨h, cs', k1, k2⟩
    simp only [c'] at k1 k2
    by_cases e : h = n
    · rw [if_pos e] at k2; cases k2
      omega
    · rw [if_neg e] at k1 k2
      exact ho ⟨h, cs', k1, k2⟩
  · by_cases e : h = n
    · exact .inr ⟨by omega, by omega⟩
    · simp only [c', if_neg e] at hh; exact .inl hh

/-- The cells of an owned block turn. -/
theorem write_ok' {hd b : Nat} {cs cs' : List VV} (hl : c.look hd = some cs) (hr : c.ρ hd = some (some b)) {us us' : Array Value} {T : TypeId} {fr fr' : Nat × Nat} {w' : World} (hb : c.w.heap[b]? = some (.cells us T fr))
    (h1 : w'.os = c.w.os) (h2 : w'.tape = c.w.tape) (h3 : w'.output = c.w.output) (h4 : w'.heap.size = c.w.heap.size) (h5 : ∀ k, k ≠ b → w'.heap[k]? = c.w.heap[k]?) (h6 : w'.heap[b]? = some (.cells us' T fr')) (hf : FrOk fr' us'.size) (h7 : us'.size = us.size)
    (h8 : cs'.length ≤ us'.size) (h9 : VRs c.env cs' (us'.toList.take cs'.length)) (h10 : ones (us'.toList.take cs'.length)) :
    ∃ c', c'.w = w' ∧ c'.ρ = c.ρ ∧ c'.look = (fun h' => if h' = hd then some cs' else c.look h') ∧ HRel c' ∧ Le c c' := by
  let c' : Cf := ⟨c.ρ, c.A, fun h' => if h' = hd then some cs' else c.look h', w'⟩
  have hnA : ¬ c.A b ∧ FrOk fr us.size := by
    rcases H.blk hd cs hl with ⟨k1, _⟩ | ⟨b', k1, k2⟩
    · rw [hr] at k1; cases k1
    · rw [hr] at k1; cases k1
      obtain ⟨g1, g2, _⟩ := k2.cells (show c.env.w.heap[b]? = some (.cells us T fr) from hb)
      exact ⟨g1, g2⟩
  have keep : c.env.Keep c'.env := by
    refine ⟨Nat.le_of_eq h4.symm, fun h x hx => hx, fun k hk ha => ⟨ha, h5 k ?_⟩, fun k us2 T2 fr2 hk => ?_, fun k es' m hk => ?_⟩
    · rintro rfl; exact hnA.1 ha
    · by_cases e : k = b
      · subst e
        have hk' : c.w.heap[k]? = some (.cells us2 T2 fr2) := hk
        rw [hb] at hk'; cases hk'
        exact ⟨us', fr', h6, h7⟩
      · exact ⟨us2, fr2, by show w'.heap[k]? = _; rw [h5 k e]; exact hk, rfl⟩
    · by_cases e : k = b
      · subst e
        have hk' : c.w.heap[k]? = some (.map es' m) := hk
        rw [hb] at hk'; cases hk'
      · exact ⟨es', m, by show w'.heap[k]? = _; rw [h5 k e]; exact hk⟩
  have owned : ∀ x, c'.Owned x → c.Owned x := by
    rintro x ⟨h, cs2, k1, k2⟩
    by_cases e : h = hd
    · subst e; exact ⟨h, cs, hl, k2⟩
    · simp only [c', if_neg e] at k1; exact ⟨h, cs2, k1, k2⟩
  refine ⟨c', rfl, rfl, rfl, ⟨fun h cs2 k1 => ?_, fun h h' cs1 cs2 x k1 k2 k3 k4 => ?_⟩, ⟨keep, h1, h2, h3, fun x hx ho => ⟨h5 x ?_, fun k => ho (owned x k)⟩, fun x hx => .inl hx⟩⟩
  · by_cases e : h = hd
    · subst e
      simp [c'] at k1; subst k1
      exact .inr ⟨b, hr, hnA.1, .inl ⟨us', T, fr', h6, hf, h8, VRs.keep keep _ h9, h10⟩⟩
    · simp only [c', if_neg e] at k1
      rcases H.blk h cs2 k1 with k | ⟨x, k2, k3⟩
      · exact .inl k
      · refine .inr ⟨x, k2, k3.keep keep k3.1 (h5 x ?_)⟩
        rintro rfl
        exact e (H.inj h hd cs2 cs x k1 hl k2 hr)
  · have g : ∀ h cs1, c'.look h = some cs1 → ∃ cs2, c.look h = some cs2 := fun h cs1 k => by
      by_cases e : h = hd
      · subst e; exact ⟨cs, hl⟩
      · simp only [c', if_neg e] at k; exact ⟨cs1, k⟩
    obtain ⟨a1, g1⟩ := g h cs1 k1
    obtain ⟨a2, g2⟩ := g h' cs2 k2
    exact H.inj h h' a1 a2 x g1 g2 k3 k4
  · rintro rfl
    exact ho ⟨hd, cs, hl, hr⟩

theorem write_ok {hd b : Nat} {cs cs' : List VV} (hl : c.look hd = some cs) (hr : c.ρ hd = some (some b)) {us us' : Array Value} {T : TypeId} {fr : Nat × Nat} {w' : World} (hb : c.w.heap[b]? = some (.cells us T fr))
    (h1 : w'.os = c.w.os) (h2 : w'.tape = c.w.tape) (h3 : w'.output = c.w.output) (h4 : w'.heap.size = c.w.heap.size) (h5 : ∀ k, k ≠ b → w'.heap[k]? = c.w.heap[k]?) (h6 : w'.heap[b]? = some (.cells us' T fr)) (h7 : us'.size = us.size)
    (h8 : cs'.length ≤ us'.size) (h9 : VRs c.env cs' (us'.toList.take cs'.length)) (h10 : ones (us'.toList.take cs'.length)) :
    ∃ c', c'.w = w' ∧ c'.ρ = c.ρ ∧ c'.look = (fun h' => if h' = hd then some cs' else c.look h') ∧ HRel c' ∧ Le c c' := by
  have hf : FrOk fr us.size := by
    rcases H.blk hd cs hl with ⟨k1, _⟩ | ⟨b', k1, k2⟩
    · rw [hr] at k1; cases k1
    · rw [hr] at k1; cases k1
      exact (k2.cells (show c.env.w.heap[b]? = some (.cells us T fr) from hb)).2.1
  exact write_ok' H hl hr hb h1 h2 h3 h4 h5 h6 (by rw [h7]; exact hf) h7 h8 h9 h10

/-- A block is given up: it is only read from now on. -/
theorem freeze_ok {hd b : Nat} {cs : List VV} (hl : c.look hd = some cs) (hr : c.ρ hd = some (some b)) :
    ∃ c', c'.w = c.w ∧ c'.ρ = c.ρ ∧ c'.look = (fun h' => if h' = hd then none else c.look h') ∧ HRel c' ∧ Le c c' ∧ c'.A b := by
  let c' : Cf := ⟨c.ρ, fun x => c.A x ∨ x = b, fun h' => if h' = hd then none else c.look h', c.w⟩
  have keep : c.env.Keep c'.env := ⟨Nat.le_refl _, fun _ _ h => h, fun k hk ha => ⟨.inl ha, rfl⟩, fun k us _ fr hk => ⟨us, fr, hk, rfl⟩, fun k es m hk => ⟨es, m, hk⟩⟩
  have old : ∀ h cs', c'.look h = some cs' → h ≠ hd ∧ c.look h = some cs' := fun h cs' k => by
    by_cases e : h = hd
    · simp [c', e] at k
    · simp only [c', if_neg e] at k; exact ⟨e, k⟩
  refine ⟨c', rfl, rfl, rfl, ⟨fun h cs' k => ?_, fun h h' cs1 cs2 x k1 k2 k3 k4 => H.inj h h' cs1 cs2 x (old _ _ k1).2 (old _ _ k2).2 k3 k4⟩,
    ⟨keep, rfl, rfl, rfl, fun x hx ho => ⟨rfl, fun ⟨h, cs', k1, k2⟩ => ho ⟨h, cs', (old _ _ k1).2, k2⟩⟩, fun x hx => ?_⟩, .inr rfl⟩
  · obtain ⟨e, kk⟩ := old h cs' k
    rcases H.blk h cs' kk with k1 | ⟨x, k2, k3⟩
    · exact .inl k1
    · refine .inr ⟨x, k2, k3.keep keep ?_ rfl⟩
      rintro (ha | rfl)
      · exact k3.1 ha
      · exact e (H.inj h hd cs' cs x kk hl k2 hr)
  · rcases hx with hx | rfl
    · exact .inl hx
    · exact .inr (.inl ⟨hd, cs, hl, hr⟩)
/-- A block is forgotten. -/
theorem kill_ok (hd : Nat) : ∃ c', c'.w = c.w ∧ c'.ρ = c.ρ ∧ c'.A = c.A ∧ c'.look = (fun h' => if h' = hd then none else c.look h') ∧ HRel c' ∧ Le c c' := by
  let c' : Cf := ⟨c.ρ, c.A, fun h' => if h' = hd then none else c.look h', c.w⟩
  have keep : c.env.Keep c'.env := Env.Keep.refl _
  have old : ∀ h cs', c'.look h = some cs' → h ≠ hd ∧ c.look h = some cs' := fun h cs' k => by
    by_cases e : h = hd
    · simp [c', e] at k
    · simp only [c', if_neg e] at k; exact ⟨e, k⟩
  exact ⟨c', rfl, rfl, rfl, rfl, ⟨fun h cs' k => H.blk h cs' (old _ _ k).2, fun h h' cs1 cs2 x k1 k2 k3 k4 => H.inj h h' cs1 cs2 x (old _ _ k1).2 (old _ _ k2).2 k3 k4⟩,
    ⟨keep, rfl, rfl, rfl, fun x hx ho => ⟨rfl, fun ⟨h, cs', k1, k2⟩ => ho ⟨h, cs', (old _ _ k1).2, k2⟩⟩, fun x hx => .inl hx⟩⟩
/-- A block gets another handle. -/
theorem rename_ok {hd n : Nat} {cs : List VV} {ob : Option Nat} (hl : c.look hd = some cs) (hr : c.ρ hd = some ob) (hn : c.ρ n = none) :
    ∃ c', c'.w = c.w ∧ c'.look = (fun h' => if h' = n then some cs else if h' = hd then none else c.look h') ∧ c'.A = c.A ∧ HRel c' ∧ Le c c' ∧ c'.ρ n = some ob ∧ newOnly c.ρ c'.ρ n 1 := by
  let c' : Cf := ⟨fun h => if h = n then some ob else c.ρ h, c.A, fun h' => if h' = n then some cs else if h' = hd then none else c.look h', c.w⟩
  have keep : c.env.Keep c'.env := by
    refine ⟨Nat.le_refl _, fun h x hx => ?_, fun k hk ha => ⟨ha, rfl⟩, fun k us _ fr hk => ⟨us, fr, hk, rfl⟩, fun k es m hk => ⟨es, m, hk⟩⟩
    show (if h = n then some ob else c.ρ h) = some x
    rw [if_neg]
    · exact hx
    · rintro rfl; have : c.ρ h = some x := hx; rw [hn] at this; cases this
  have hne : hd ≠ n := by rintro rfl; rw [hn] at hr; cases hr
  have old : ∀ h cs', c'.look h = some cs' → (h = n ∧ cs' = cs ∧ c'.ρ h = some ob) ∨ (h ≠ hd ∧ h ≠ n ∧ c.look h = some cs' ∧ c'.ρ h = c.ρ h) := fun h cs' k => by
    by_cases e : h = n
    · simp [c', e] at k; exact .inl ⟨e, k.symm, by simp [c', e]⟩
    · by_cases e2 : h = hd
      · simp only [c', if_neg e, if_pos e2] at k; cases k
      · simp only [c', if_neg e, if_neg e2] at k; exact .inr ⟨e2, e, k, by simp [c', e]⟩
  refine ⟨c', rfl, rfl, rfl, ⟨fun h cs' k => ?_, fun h h' cs1 cs2 x k1 k2 k3 k4 => ?_⟩, ⟨keep, rfl, rfl, rfl, fun x hx ho => ⟨rfl, fun ⟨h, cs', k1, k2⟩ => ?_⟩, fun x hx => .inl hx⟩, by simp [c'], fun h hh => ?_⟩
  · rcases old h cs' k with ⟨rfl, rfl, e3⟩ | ⟨e1, e2, e3, e4⟩
    · rcases H.blk hd cs' hl with ⟨g1, g2⟩ | ⟨x, g1, g2⟩
      · exact .inl ⟨by rw [e3, ← g1, hr], g2⟩
      · exact .inr ⟨x, by rw [e3, ← g1, hr], g2.keep keep g2.1 rfl⟩
    · rcases H.blk h cs' e3 with ⟨g1, g2⟩ | ⟨x, g1, g2⟩
      · exact .inl ⟨by rw [e4]; exact g1, g2⟩
      · exact .inr ⟨x, by rw [e4]; exact g1, g2.keep keep g2.1 rfl⟩
  · rcases old h cs1 k1 with ⟨rfl, rfl, e3⟩ | ⟨e1, e2, e3, e4⟩ <;> rcases old h' cs2 k2 with ⟨rfl, rfl, f3⟩ | ⟨f1, f2, f3, f4⟩
    · rfl
    · rw [f4] at k4; rw [e3] at k3; cases k3
      exact absurd (H.inj h' hd cs2 _ x f3 hl k4 hr) f1
    · rw [e4] at k3; rw [f3] at k4; cases k4
      exact absurd (H.inj h hd cs1 _ x e3 hl k3 hr) e1
    · rw [e4] at k3; rw [f4] at k4
      exact H.inj h h' cs1 cs2 x e3 f3 k3 k4
  · rcases old h cs' k1 with ⟨rfl, rfl, e3⟩ | ⟨e1, e2, e3, e4⟩
    · rw [e3] at k2; cases k2
      exact ho ⟨hd, _, hl, hr⟩
    · rw [e4] at k2; exact ho ⟨h, cs', e3, k2⟩
  · by_cases e : h = n
    · exact .inr ⟨by omega, by omega⟩
    · simp only [c', if_neg e] at hh; exact .inl hh
/-- An empty row without a block gets a handle. -/
theorem null_ok {n : Nat} (hn : c.ρ n = none) :
    ∃ c', c'.w = c.w ∧ c'.look = (fun h' => if h' = n then some [] else c.look h') ∧ c'.A = c.A ∧ HRel c' ∧ Le c c' ∧ c'.ρ n = some none ∧ newOnly c.ρ c'.ρ n 1 := by
  let c' : Cf := ⟨fun h => if h = n then some none else c.ρ h, c.A, fun h' => if h' = n then some [] else c.look h', c.w⟩
  have keep : c.env.Keep c'.env := by
    refine ⟨Nat.le_refl _, fun h x hx => ?_, fun k hk ha => ⟨ha, rfl⟩, fun k us _ fr hk => ⟨us, fr, hk, rfl⟩, fun k es m hk => ⟨es, m, hk⟩⟩
    show (if h = n then some none else c.ρ h) = some x
    rw [if_neg]
    · exact hx
    · rintro rfl; have : c.ρ h = some x := hx; rw [hn] at this; cases this
  have old : ∀ h cs', c'.look h = some cs' → (h = n ∧ cs' = [] ∧ c'.ρ h = some none) ∨ (h ≠ n ∧ c.look h = some cs' ∧ c'.ρ h = c.ρ h) := fun h cs' k => by
    by_cases e : h = n
    · simp [c', e] at k; exact .inl ⟨e, k, by simp [c', e]⟩
    · simp only [c', if_neg e] at k; exact .inr ⟨e, k, by simp [c', e]⟩
  refine ⟨c', rfl, rfl, rfl, ⟨fun h cs' k => ?_, fun h h' cs1 cs2 x k1 k2 k3 k4 => ?_⟩, ⟨keep, rfl, rfl, rfl, fun x hx ho => ⟨rfl, fun ⟨h, cs', k1, k2⟩ => ?_⟩, fun x hx => .inl hx⟩, by simp [c'], fun h hh => ?_⟩
  · rcases old h cs' k with ⟨rfl, rfl, e3⟩ | ⟨e1, e3, e4⟩
    · exact .inl ⟨e3, rfl⟩
    · rcases H.blk h cs' e3 with ⟨g1, g2⟩ | ⟨x, g1, g2⟩
      · exact .inl ⟨by rw [e4]; exact g1, g2⟩
      · exact .inr ⟨x, by rw [e4]; exact g1, g2.keep keep g2.1 rfl⟩
  · rcases old h cs1 k1 with ⟨rfl, rfl, e3⟩ | ⟨e1, e3, e4⟩ <;> rcases old h' cs2 k2 with ⟨rfl, rfl, f3⟩ | ⟨f1, f3, f4⟩
    · rfl
    · rw [e3] at k3; cases k3
    · rw [f3] at k4; cases k4
    · rw [e4] at k3; rw [f4] at k4
      exact H.inj h h' cs1 cs2 x e3 f3 k3 k4
  · rcases old h cs' k1 with ⟨rfl, rfl, e3⟩ | ⟨e1, e3, e4⟩
    · rw [e3] at k2; cases k2
    · rw [e4] at k2; exact ho ⟨h, cs', e3, k2⟩
  · by_cases e : h = n
    · exact .inr ⟨by omega, by omega⟩
    · simp only [c', if_neg e] at hh; exact .inl hh
end

def vextract (x : VV) (i : Nat) : Option VV := match x with | .tup vs => vs[i]? | _ => none
def vnil (x : VV) : Option VV := match x with
  | .ptr h o => some (.ptr h o) | .dp es o => some (.dp es o) | .fn (.func f) caps => some (.fn (.func f) caps) | .ifc t y => some (.ifc t y) | _ => none
def vpick (c a b : VV) : Option VV := match c with | .v (.bool t) => some (match t with | true => a | false => b) | _ => none
def vmm (big : Bool) (a b : VV) : Option VV := match a, b with
  | .v (.int k x), .v (.int _ y) => some (nI k (match big with | true => (if y > x then y else x) | false => (if y < x then y else x)))
  | _, _ => none
noncomputable def vpure (Γ : Tab) (o : Op) (ev : Operand → VV) : Option VV :=
  match o with
  | .move x => some (ev x)
  | .assign x => some (ev x)
  | .pick c a b => vpick (ev c) (ev a) (ev b)
  | .nilCheck x => vnil (ev x)
  | .binOp op t x y _ => vbin Γ op t (ev x) (ev y)
  | .unOp op _ x => vun op (ev x)
  | .convert src dst x => match Γ src with | some _ => vconv Γ dst (ev x) | none => none
  | .makeFunc fn first caps => match first.toList with
    | [] => (match fn with | .method _ => none | f => some (.fn f (caps.toList.map ev)))
    | [x] => (match fn, caps.toList with | .method nm, [] => some (.fn (.method nm) [ev x]) | _, _ => none)
    | _ => none
  | .makeInterface t x => match Γ t with | some _ => some (.ifc t (ev x)) | none => none
  | .slice t x lo hi mx => vslice Γ t (ev x) (lo.map ev) (hi.map ev) (mx.map ev)
  | .fieldAddr t x f => vfieldAddr Γ t (ev x) f
  | .field t x f => vfield Γ t (ev x) f
  | .indexAddr t x i => vindexAddr Γ t (ev x) (ev i)
  | .index t x i => vindex Γ t (ev x) (ev i)
  | .extract x i => vextract (ev x) i
  | .build t parts => vbuild Γ t (parts.toList.map fun (i, x) => (i, ev x))
  | .call { callee := .builtin .len, args := args, argTypes := ts } => match args.toList, ts.toList with
    | [x], t :: _ => vlen Γ t (ev x)
    | _, _ => none
  | .call { callee := .builtin .min, args := args, argTypes := _ } => match args.toList with
    | [x, y] => vmm false (ev x) (ev y)
    | _ => none
  | .call { callee := .builtin .max, args := args, argTypes := _ } => match args.toList with
    | [x, y] => vmm true (ev x) (ev y)
    | _ => none
  | _ => none

theorem VRs_map {E : Env} {ev : Operand → VV} {f : Operand → Value} : ∀ (xs : List Operand), (∀ x ∈ xs, VR E (ev x) (f x)) → VRs E (xs.map ev) (xs.map f)
  | [], _ => by simp [VRs]
  | x :: xs, h => VRs.cons (h x (by simp)) (VRs_map xs fun y hy => h y (by simp [hy]))

theorem vpure_ok {P : Program} {Γ : Tab} (hΓ : TabOk P Γ) {E : Env} {o : Oper} {a : Act} {ev : Operand → VV} {v : VV} (h : vpure Γ o.op ev = some v) (hr : ∀ x ∈ o.op.operands, VR E (ev x) (a.eval x)) (w : World) :
    ∃ u, (execOp a.eval o).run P w = .ok (.value u) w ∧ VR E v u := by
  unfold vpure at h
  split at h <;> (try (rename_i hop; rw [hop] at hr)) <;> (try simp only [Op.operands, Call.operands] at hr)
  · cases h; exact ⟨a.eval _, by simp only [execOp, hop]; rfl, hr _ (by simp)⟩
  · cases h; exact ⟨a.eval _, by simp only [execOp, hop]; rfl, hr _ (by simp)⟩
  · rename_i c x y
    have h1 := hr c (by simp)
    have h2 := hr x (by simp)
    have h3 := hr y (by simp)
    unfold vpick at h
    split at h
    · rename_i t ht
      rw [ht] at h1; simp only [VR] at h1
      cases h
      refine ⟨if t then a.eval x else a.eval y, by simp only [execOp, hop, h1]; rfl, ?_⟩
      cases t <;> simp [h2, h3]
    · cases h
  · rename_i x
    have h1 := hr x (by simp)
    unfold vnil at h
    split at h <;> rename_i hx <;> (try rw [hx] at h1) <;> (try simp only [VR] at h1)
    · cases h; obtain ⟨b, h2, h3, hq⟩ := h1
      exact ⟨_, by simp only [execOp, hop, h3]; rfl, by simp only [VR]; exact ⟨b, h2, rfl, hq⟩⟩
    · cases h; obtain ⟨b, base, h2, h3, h4, h5⟩ := h1
      exact ⟨_, by simp only [execOp, hop, h4]; rfl, by simp only [VR]; exact ⟨b, base, h2, h3, rfl, h5⟩⟩
    · cases h; obtain ⟨us, h2, h3⟩ := h1
      exact ⟨_, by simp only [execOp, hop, h2, mkF]; rfl, by simp only [VR]; exact ⟨us, rfl, h3⟩⟩
    · cases h; obtain ⟨us, h2, h3⟩ := h1
      exact ⟨_, by simp only [execOp, hop, h2]; rfl, by simp only [VR]; exact ⟨us, rfl, h3⟩⟩
    · cases h
  · rename_i op t x y yt
    obtain ⟨u, h1, h2⟩ := vbin_ok hΓ h (hr x (by simp)) (hr y (by simp)) x y w
    refine ⟨u, ?_, h2⟩
    simp only [execOp, hop]
    rw [Sem.run_bind, h1]
    rfl
  · rename_i op t x
    obtain ⟨u, h1, h2⟩ := vun_ok (P := P) h (hr x (by simp)) w
    refine ⟨u, ?_, h2⟩
    simp only [execOp, hop]
    rw [Sem.run_bind, h1]
    rfl
  · rename_i src dst x
    split at h
    · rename_i q hq
      obtain ⟨u, h1, h2⟩ := vconv_ok (P := P) hΓ (src := src) h (by simp [hq]) (hr x (by simp)) w
      refine ⟨u, ?_, h2⟩
      simp only [execOp, hop]
      rw [Sem.run_bind, h1]
      rfl
    · cases h
  · rename_i fn first caps
    split at h
    · rename_i hf
      have : first = #[] := by simpa using hf
      subst this
      split at h
      · cases h
      · rename_i f hm
        cases h
        refine ⟨.func fn #[] (caps.map a.eval), by simp [execOp, hop, Instr.makeFunc], ?_⟩
        simp only [VR]
        refine ⟨caps.toList.map a.eval, ?_, VRs_map _ fun x hx => hr x (by simpa using hx)⟩
        unfold mkF
        split
        · exact absurd rfl (hm _)
        · rw [← Array.toList_map]
    · rename_i x hf
      have : first = #[x] := by rw [← Array.toList_inj]; exact hf
      subst this
      split at h
      · rename_i nm hc
        have : caps = #[] := by simpa using hc
        subst this
        cases h
        refine ⟨.func (.method nm) #[a.eval x] #[], by simp [execOp, hop, Instr.makeFunc], ?_⟩
        simp only [VR]
        exact ⟨[a.eval x], rfl, VRs.cons (hr x (by simp)) rfl⟩
      · cases h
    · cases h
  · rename_i t x
    split at h
    · rename_i q hq
      cases h
      obtain ⟨d, i, z, h1, h2, _⟩ := (hΓ t q hq).ex
      refine ⟨.iface t (a.eval x), ?_, by simp only [VR]; exact ⟨_, rfl, hr x (by simp)⟩⟩
      simp only [execOp, hop, Instr.makeInterface, Sem.run_bind, run_underlying h1, Result.andThen_ok]
      split
      · exfalso
        cases hq' : q.d <;> rw [hq'] at h2 <;> simp [TDok] at h2
      · rfl
    · cases h
  · rename_i t x lo hi mx
    have ro : ∀ (y : Option Operand), (∀ z, y = some z → VR E (ev z) (a.eval z)) → VRo E (y.map ev) (y.map a.eval) := fun y hy => by
      cases y with
      | none => trivial
      | some z => exact hy z rfl
    obtain ⟨u, h1, h2⟩ := vslice_ok (P := P) hΓ h (hr x (by simp)) (ro lo fun z hz => hr z (by simp [hz])) (ro hi fun z hz => hr z (by simp [hz])) (ro mx fun z hz => hr z (by simp [hz])) w
    refine ⟨u, ?_, h2⟩
    simp only [execOp, hop]
    rw [Sem.run_bind, h1]
    rfl
  · rename_i t x f
    obtain ⟨u, h1, h2⟩ := vfieldAddr_ok (P := P) hΓ h (hr x (by simp)) w
    refine ⟨u, ?_, h2⟩
    simp only [execOp, hop]
    rw [Sem.run_bind, h1]
    rfl
  · rename_i t x f
    obtain ⟨u, h1, h2⟩ := vfield_ok (P := P) hΓ h (hr x (by simp)) w
    refine ⟨u, ?_, h2⟩
    simp only [execOp, hop]
    rw [Sem.run_bind, h1]
    rfl
  · rename_i t x i
    obtain ⟨u, h1, h2⟩ := vindexAddr_ok (P := P) hΓ h (hr x (by simp)) (hr i (by simp)) w
    refine ⟨u, ?_, h2⟩
    simp only [execOp, hop]
    rw [Sem.run_bind, h1]
    rfl
  · rename_i t x i
    obtain ⟨u, h1, h2⟩ := vindex_ok (P := P) hΓ h (hr x (by simp)) (hr i (by simp)) w
    refine ⟨u, ?_, h2⟩
    simp only [execOp, hop]
    rw [Sem.run_bind, h1]
    rfl
  · rename_i x i
    have h1 := hr x (by simp)
    unfold vextract at h
    split at h
    · rename_i vs hx
      rw [hx] at h1; simp only [VR] at h1
      obtain ⟨us, h2, h3⟩ := h1
      obtain ⟨u, h4, h5⟩ := h3.get h
      refine ⟨u, ?_, h5⟩
      simp only [execOp, hop, h2, Instr.extract]
      simp [h4]
    · cases h
  · rename_i t parts
    obtain ⟨u, h1, h2⟩ := vbuild_ok (P := P) hΓ (vals := parts.map fun (i, x) => (i, a.eval x)) h (by simp [Function.comp_def]) (by
      simp only [Array.toList_map, List.map_map, Function.comp_def]
      have := VRs_map (E := E) (ev := ev) (f := a.eval) (parts.toList.map (·.2)) (fun x hx => hr x (by simpa using hx))
      simpa [Function.comp_def] using this) w
    refine ⟨u, ?_, h2⟩
    simp only [execOp, hop]
    rw [Sem.run_bind, h1]
    rfl
  · rename_i args ts
    split at h
    · rename_i x t ts' hx ht
      have e1 : args = #[x] := by rw [← Array.toList_inj]; exact hx
      subst e1
      have e2 : ts = (t :: ts').toArray := by rw [← Array.toList_inj]; simpa using ht
      subst e2
      obtain ⟨u, h1, h2⟩ := vlen_ok (P := P) hΓ (ty := o.type) (ts := ts') h (hr x (by simp)) w
      refine ⟨u, ?_, h2⟩
      simp [execOp, hop, resolve, invoke, builtin, h1]
    · cases h
  · rename_i args ts
    split at h
    · rename_i x y hx
      have e1 : args = #[x, y] := by rw [← Array.toList_inj]; exact hx
      subst e1
      have h1 := hr x (by simp)
      have h2 := hr y (by simp)
      unfold vmm at h
      split at h
      · rename_i k p k' q hp hq
        rw [hp] at h1; rw [hq] at h2
        simp only [VR] at h1 h2
        cases h
        refine ⟨.int k (if q < p then q else p), ?_, by simp only [nI, VR]⟩
        simp [execOp, hop, resolve, invoke, builtin, h1, h2, Builtin.min_, Builtin.min2]
      · cases h
    · cases h
  · rename_i args ts
    split at h
    · rename_i x y hx
      have e1 : args = #[x, y] := by rw [← Array.toList_inj]; exact hx
      subst e1
      have h1 := hr x (by simp)
      have h2 := hr y (by simp)
      unfold vmm at h
      split at h
      · rename_i k p k' q hp hq
        rw [hp] at h1; rw [hq] at h2
        simp only [VR] at h1 h2
        cases h
        refine ⟨.int k (if q > p then q else p), ?_, by simp only [nI, VR]⟩
        simp [execOp, hop, resolve, invoke, builtin, h1, h2, Builtin.max_, Builtin.max2]
      · cases h
    · cases h
  · cases h

/-- What an operation yields, reads and turns. -/
structure Ev where
  v : VV
  rd : List Nat
  upd : List (Nat × Option (List VV))
  m : Nat

def OGoes (P : Program) (o : Oper) (a : Act) (w : World) (R : Value → World → Prop) : Prop :=
  match (execOp a.eval o).run P w with
  | .ok (.value u) w' => R u w'
  | .ok .skip w' => R undef w'
  | .ok (.enter f args) w' => Calls P f args w' fun e w'' => ∃ u, e = .returned u ∧ R u w''
  | _ => False
theorem OGoes.wp {P : Program} {o : Oper} {a : Act} {w : World} {R : Value → World → Prop} {K : Act → World → Prop} {Q : Exit → Act → World → Prop} (h : OGoes P o a w R) (k : ∀ u w', R u w' → K (a.put o.dst u) w') : o.wp P a w K Q := by
  unfold OGoes at h
  unfold Oper.wp
  split at h
  · rename_i hr; rw [hr]; exact k _ _ h
  · rename_i hr; rw [hr]; exact k _ _ h
  · rename_i hr; rw [hr]
    exact Calls.mono h fun e w'' ⟨u, he, hR⟩ => by subst he; exact k _ _ hR
  · exact h.elim

/-- What a run from c leaves: the value, the blocks. -/
def Leaves (c : Cf) (n : Nat) (ev : Ev) (u : Value) (w' : World) : Prop :=
  ∃ c', c'.w = w' ∧ HRel c' ∧ c'.look = fup c.look ev.upd ∧ VR c'.env ev.v u ∧ Le c c' ∧ newOnly c.ρ c'.ρ n ev.m
def Within (n : Nat) (ev : Ev) : Prop := ∀ p ∈ ev.upd, p.1 ∈ ev.rd ∨ (n ≤ p.1 ∧ p.1 < n + ev.m)
def Glob (G : Globs) (c : Cf) : Prop := ∀ g es, G g = some es → VR c.env (.dp es 0) (.pointer (some ⟨g, 0, none⟩))
structure EvOk (P : Program) (G : Globs) (o : Oper) (Tv : Operand → VV) (lkf : Nat → Option (List VV)) (n : Nat) (ev : Ev) : Prop where
  within : Within n ev
  goes : ∀ c a, HRel c → Glob G c → (∀ x ∈ o.op.operands, VR c.env (Tv x) (a.eval x)) → (∀ h ∈ ev.rd, c.look h = lkf h) → (∀ i, i < ev.m → c.ρ (n + i) = none) → OGoes P o a c.w (Leaves c n ev)

section
variable {P : Program} {G : Globs} {Γ : Tab} (hΓ : TabOk P Γ) {o : Oper} {Tv : Operand → VV} {lkf : Nat → Option (List VV)} {n : Nat}

theorem evok_pure' {v : VV} (h : ∀ (c : Cf) (a : Act), HRel c → (∀ x ∈ o.op.operands, VR c.env (Tv x) (a.eval x)) → ∃ u, (execOp a.eval o).run P c.w = .ok (.value u) c.w ∧ VR c.env v u) : EvOk P G o Tv lkf n ⟨v, [], [], 0⟩ := by
  refine ⟨(fun p hp => by cases hp), fun c a H hG hr _ _ => ?_⟩
  obtain ⟨u, h1, h2⟩ := h c a H hr
  unfold OGoes
  rw [h1]
  exact ⟨c, rfl, H, rfl, h2, Le.refl c, newOnly.refl⟩
include hΓ
theorem evok_pure {v : VV} (h : vpure Γ o.op Tv = some v) : EvOk P G o Tv lkf n ⟨v, [], [], 0⟩ :=
  evok_pure' fun c a _ hr => vpure_ok hΓ h hr c.w

omit hΓ in
theorem run_newVar (t : TypeId) (z : Value) (w : World) : (newVar t z).run P w = .ok ⟨w.heap.size, 0, none⟩ (w.alloc (.cells z.cells t)) := by
  simp [newVar, newRow, newObj, Sem.run_bind, Sem.run]

omit hΓ in
theorem ones_arr {us : Array Value} (h : ones us.toList) : ones (us.toList.take us.size) := ones_take h _

theorem evok_alloc {t : TypeId} {r : TR} (hop : o.op = .alloc t) (ht : Γ t = some r) : EvOk P G o Tv lkf n ⟨.ptr n 0, [], [(n, some r.zero)], 1⟩ := by
  refine ⟨fun p hp => by simp at hp; subst hp; exact .inr ⟨Nat.le_refl _, by simp⟩, fun c a H hG hr _ hf => ?_⟩
  obtain ⟨z, z1, z2, z3, z4, _⟩ := zero_ok hΓ ht c.env
  have hlen := z2.length
  obtain ⟨c', g1, g2, g3, g4, g5, g6, g7⟩ := alloc_ok H (n := n) (by simpa using hf 0 (by simp)) (w' := c.w.alloc (.cells z.cells t)) (us := z.cells) (T := t) (fr := (0, 0)) (cs := r.zero) rfl rfl rfl rfl (.inl rfl)
    (by simp at hlen; omega) (by rw [← hlen, List.take_of_length_le (Nat.le_refl _)]; exact z2) (ones_take z3 _)
  unfold OGoes
  simp only [execOp, hop, Instr.alloc, Sem.run_bind, z1, Result.andThen_ok, run_newVar, Sem.run_pure]
  exact ⟨c', g1, g2, by rw [g3]; rfl, by simp only [VR]; exact ⟨_, g5, rfl, by rw [show c'.env.w = c'.w from rfl, g1]; exact ⟨_, _, _, g7⟩⟩, g4, g6⟩

theorem evok_box {t : TypeId} {x : Operand} {cs : List VV} (hop : o.op = .box t x) (hc : cellsOf (Tv x) = some cs) : EvOk P G o Tv lkf n ⟨.ptr n 0, [], [(n, some cs)], 1⟩ := by
  refine ⟨fun p hp => by simp at hp; subst hp; exact .inr ⟨Nat.le_refl _, by simp⟩, fun c a H hG hr _ hf => ?_⟩
  rw [hop] at hr
  obtain ⟨z2, z3⟩ := cellsOf_ok hc (hr x (by simp [Op.operands]))
  have hlen := z2.length
  obtain ⟨c', g1, g2, g3, g4, g5, g6, g7⟩ := alloc_ok H (n := n) (by simpa using hf 0 (by simp)) (w' := c.w.alloc (.cells (a.eval x).cells t)) (us := (a.eval x).cells) (T := t) (fr := (0, 0)) (cs := cs) rfl rfl rfl rfl (.inl rfl)
    (by simp at hlen; omega) (by rw [← hlen, List.take_of_length_le (Nat.le_refl _)]; exact z2) (ones_take z3 _)
  unfold OGoes
  simp only [execOp, hop, Instr.box, Sem.run_bind, Result.andThen_ok, run_newVar, Sem.run_pure]
  exact ⟨c', g1, g2, by rw [g3]; rfl, by simp only [VR]; exact ⟨_, g5, rfl, by rw [show c'.env.w = c'.w from rfl, g1]; exact ⟨_, _, _, g7⟩⟩, g4, g6⟩

omit hΓ in
theorem blk_cells {c : Cf} (H : HRel c) {h b : Nat} {cs : List VV} (hl : c.look h = some cs) (hr : c.ρ h = some (some b)) (hq : ∃ us T fr, c.w.heap[b]? = some (.cells us T fr)) :
    ∃ (us : Array Value) (T : TypeId) (fr : Nat × Nat), c.w.heap[b]? = some (.cells us T fr) ∧ FrOk fr us.size ∧ cs.length ≤ us.size ∧ VRs c.env cs (us.toList.take cs.length) ∧ ones (us.toList.take cs.length) ∧
      (∀ (i : Nat) (u : Value), us[i]? = some u → c.w.cell? ⟨b, i, none⟩ = some u ∧ c.w.frozen? ⟨b, i, none⟩ = false) := by
  obtain ⟨us, T, fr, k2'⟩ := hq
  rcases H.blk h cs hl with ⟨k1, _⟩ | ⟨b', k1, kk⟩
  · rw [hr] at k1; cases k1
  · rw [hr] at k1; cases k1
    obtain ⟨_, k3, k4, k5, k6⟩ := kk.cells (show c.env.w.heap[b]? = some (.cells us T fr) from k2')
    refine ⟨us, T, fr, k2', k3, k4, k5, k6, fun i u hu => ⟨by simp [World.cell?, k2', hu], ?_⟩⟩
    have := k3.not i (Array.getElem?_eq_some_iff.1 hu).1
    simp only [World.frozen?, k2']
    simp only [Bool.and_eq_false_iff, decide_eq_false_iff_not]
    omega

theorem evok_load {t : TypeId} {x : Operand} {h off : Nat} {cs : List VV} {v : VV} (hop : o.op = .load t x) (hx : Tv x = .ptr h off) (hl : lkf h = some cs) (hv : vload Γ t cs off = some v) : EvOk P G o Tv lkf n ⟨v, [h], [], 0⟩ := by
  refine ⟨(fun p hp => by cases hp), fun c a H hG hr hrd _ => ?_⟩
  rw [hop] at hr
  have h1 := hr x (by simp [Op.operands])
  rw [hx] at h1; simp only [VR] at h1
  obtain ⟨b, h2, h3, hq⟩ := h1
  obtain ⟨us, T, fr, k1, k2, k3, k4, k5, k6⟩ := blk_cells H (by rw [hrd h (by simp)]; exact hl) h2 hq
  obtain ⟨u, g1, g2⟩ := vload_ok hΓ (E := c.env) (b := b) (base := 0) hv k4 k5 (fun i u hu => by
    rw [List.getElem?_take] at hu
    split at hu
    · have := (k6 i u (by simpa using hu)).1
      simpa [Env.cell, Cf.env] using this
    · cases hu)
  unfold OGoes
  have g1' : (loadVar t ⟨b, off, none⟩).run P c.w = .ok u c.w := by simpa [Cf.env] using g1
  simp only [execOp, hop, h3, Instr.loadAt, Instr.sureAddr, Sem.run_bind, Sem.run_pure, Result.andThen_ok, g1']
  exact ⟨c, rfl, H, rfl, g2, Le.refl c, newOnly.refl⟩
theorem evok_load_dp {t : TypeId} {x : Operand} {off : Nat} {es : List VV} {v : VV} (hop : o.op = .load t x) (hx : Tv x = .dp es off) (hv : vload Γ t es off = some v) : EvOk P G o Tv lkf n ⟨v, [], [], 0⟩ := by
  refine evok_pure' fun c a H hr => ?_
  rw [hop] at hr
  have h1 := hr x (by simp [Op.operands])
  rw [hx] at h1; simp only [VR] at h1
  obtain ⟨b, base, h2, h3, h4, us, h5, h6, h7⟩ := h1
  obtain ⟨u, g1, g2⟩ := vload_ok hΓ (E := c.env) (b := b) (base := base) hv h6 h7 h5
  have g1' : (loadVar t ⟨b, base + off, none⟩).run P c.w = .ok u c.w := by simpa [Cf.env] using g1
  refine ⟨u, ?_, g2⟩
  simp only [execOp, hop, h4, Instr.loadAt, Instr.sureAddr, Sem.run_bind, Sem.run_pure, Result.andThen_ok, g1']

omit hΓ in
theorem setCells_heap (b : Nat) : ∀ (vs : List Value) (o : Nat) (w : World) (us : Array Value) (T : TypeId) (fr : Nat × Nat), w.heap[b]? = some (.cells us T fr) → o + vs.length ≤ us.size →
    (w.setCells b o vs).heap[b]? = some (.cells (splice us.toList o vs).toArray T fr)
  | [], o, w, us, T, fr, h, _ => by simp [World.setCells, splice, h]
  | v :: vs, o, w, us, T, fr, h, hl => by
    simp only [List.length_cons] at hl
    have h1 : (w.setCell ⟨b, o, none⟩ v).heap[b]? = some (.cells (us.setIfInBounds o v) T fr) := by
      rw [setCell_eq_setRow w b o us T fr v h]; exact setRow_heap w b us _ T fr h
    rw [World.setCells, setCells_heap b vs (o + 1) _ _ T fr h1 (by simp; omega)]
    have key := setAll_splice (v :: vs) 0 o us (by simp; omega)
    have key2 := setAll_splice vs 1 o (us.setIfInBounds o v) (by simp; omega)
    simp only [Nat.add_zero] at key
    rw [← key, ← key2]
    simp [List.zipIdx_cons]
omit hΓ in
theorem setCells_other (b : Nat) : ∀ (vs : List Value) (o : Nat) (w : World), (w.setCells b o vs).os = w.os ∧ (w.setCells b o vs).tape = w.tape ∧ (w.setCells b o vs).output = w.output ∧ (w.setCells b o vs).heap.size = w.heap.size ∧ ∀ k, k ≠ b → (w.setCells b o vs).heap[k]? = w.heap[k]?
  | [], _, _ => ⟨rfl, rfl, rfl, rfl, fun _ _ => rfl⟩
  | v :: vs, o, w => by
    obtain ⟨h1, h2, h3, h4, h5⟩ := setCells_other b vs (o + 1) (w.setCell ⟨b, o, none⟩ v)
    refine ⟨h1, h2, h3, by rw [World.setCells, h4]; simp, fun k hk => ?_⟩
    rw [World.setCells, h5 k hk]
    exact heap_setCell_other w ⟨b, o, none⟩ k v hk

omit hΓ in
theorem take_splice {us : List Value} {off k : Nat} {nu : List Value} (h : off + nu.length ≤ k) (hk : k ≤ us.length) : (splice us off nu).take k = splice (us.take k) off nu := by
  unfold splice
  apply List.ext_getElem?
  intro i
  have e : min off us.length = off := by omega
  have e2 : min off (min k us.length) = off := by omega
  simp only [List.getElem?_append, List.length_take, List.getElem?_take, List.getElem?_drop, e, e2]
  rcases Nat.lt_or_ge i off with h1 | h1
  · simp (disch := omega) only [if_pos, if_neg]
  · rcases Nat.lt_or_ge (i - off) nu.length with h2 | h2
    · simp (disch := omega) only [if_pos, if_neg]
    · by_cases h3 : i < k
      · simp (disch := omega) only [if_pos, if_neg]
      · simp (disch := omega) only [if_pos, if_neg]

omit hΓ in
/-- Writing cells into an owned block. -/
theorem write_cells {c : Cf} (H : HRel c) {h b off : Nat} {cs new : List VV} {nu : List Value} (hl : c.look h = some cs) (hr : c.ρ h = some (some b)) (hq : ∃ us T fr, c.w.heap[b]? = some (.cells us T fr)) (hn : VRs c.env new nu) (ho : ones nu) (hle : off + new.length ≤ cs.length) :
    (storeCells ⟨b, off, none⟩ nu).run P c.w = .ok () (c.w.setCells b off nu) ∧
    ∃ c', c'.w = c.w.setCells b off nu ∧ c'.ρ = c.ρ ∧ c'.look = (fun h' => if h' = h then some (splice cs off new) else c.look h') ∧ HRel c' ∧ Le c c' := by
  obtain ⟨us, T, fr, k1, k2, k3, k4, k5, k6⟩ := blk_cells H hl hr hq
  have hnl := hn.length
  have hex : ∀ j, j < nu.length → ∃ u, us[off + j]? = some u := fun j hj => ⟨us[off + j]'(by omega), by simp⟩
  refine ⟨?_, ?_⟩
  · have := run_storeCells_cells (P := P) b off nu 0 c.w (fun j hj => by obtain ⟨u, hu⟩ := hex j hj; simp only [Nat.add_zero]; rw [(k6 _ _ hu).1]; rfl)
      (fun j hj => by obtain ⟨u, hu⟩ := hex j hj; simp only [Nat.add_zero]; exact (k6 _ _ hu).2) ho
    simpa using this
  · obtain ⟨g1, g2, g3, g4, g5⟩ := setCells_other b nu off c.w
    have g6 := setCells_heap b nu off c.w us T fr k1 (by omega)
    have hsl : (splice us.toList off nu).length = us.size := by rw [splice_length (by simp; omega)]; simp
    have hcl : (splice cs off new).length = cs.length := splice_length hle
    refine write_ok H hl hr k1 g1 g2 g3 g4 g5 g6 (by simpa using hsl) (by rw [hcl]; simp; omega) ?_ ?_
    · rw [hcl]
      simp only []
      rw [take_splice (by omega) (by simp; omega)]
      exact splice_VRs k4 hn
    · rw [hcl]
      simp only []
      rw [take_splice (by omega) (by simp; omega)]
      exact splice_ones k5 ho

theorem evok_store {t : TypeId} {x y : Operand} {h off : Nat} {cs new : List VV} {r : TR} (hop : o.op = .store t x y) (hx : Tv x = .ptr h off) (hl : lkf h = some cs) (hy : cellsOf (Tv y) = some new) (ht : Γ t = some r) (hs : new.length = r.size) (hle : off + new.length ≤ cs.length) :
    EvOk P G o Tv lkf n ⟨.any, [h], [(h, some (splice cs off new))], 0⟩ := by
  refine ⟨fun p hp => by simp at hp; subst hp; exact .inl (by simp), fun c a H hG hr hrd _ => ?_⟩
  rw [hop] at hr
  have h1 := hr x (by simp [Op.operands])
  rw [hx] at h1; simp only [VR] at h1
  obtain ⟨b, h2, h3, hq⟩ := h1
  obtain ⟨n1, n2⟩ := cellsOf_ok hy (hr y (by simp [Op.operands]))
  obtain ⟨g1, c', g2, g3, g4, g5, g6⟩ := write_cells (P := P) H (by rw [hrd h (by simp)]; exact hl) h2 hq n1 n2 hle
  have hnl := n1.length
  unfold OGoes
  have hst : (storeVar t ⟨b, off, none⟩ (a.eval y)).run P c.w = .ok () (c.w.setCells b off (a.eval y).cells.toList) := by
    unfold storeVar
    rw [Sem.run_bind, run_sizeOf_tab hΓ ht]
    simp only [Result.andThen_ok]
    rw [if_neg (by simp at hnl; simp; omega)]
    simp [g1]
  simp only [execOp, hop, h3, Instr.storeAt, Instr.sureAddr, Sem.run_bind, Sem.run_pure, Result.andThen_ok, hst]
  exact ⟨c', g2, g5, by rw [g4]; rfl, by simp [VR], g6, newOnly.of_eq g3⟩
end

theorem run_append_zero {P : Program} {t ty e : TypeId} {i : TypeInfo} (ht : P.underlying t = some (.slice e)) (hi : P.info? e = some i) (base xb : Option Addr) (sLen sCap c : Nat) (hle : sLen ≤ sCap) (w : World) :
    (Builtin.append_ #[t, t] ty #[.slice base sLen sCap, .slice xb 0 c]).run P w = .ok (.slice base sLen sCap) w := by
  have hl : ∀ (x : Addr), (loadCells x 0).run P w = .ok #[] w := fun x => by simpa using run_loadCells_list (P := P) w x [] (by simp)
  cases base <;> cases xb <;> simp [Builtin.append_, run_underlying ht, sizeOf, typeInfo, hi, Builtin.lenOf, Builtin.firstCells, hle, hl, storeCells]

theorem run_append_cases {P : Program} {t ty e : TypeId} {i : TypeInfo} {z : Value} (ht : P.underlying t = some (.slice e)) (hi : P.info? e = some i) (hz : i.zero = some z) (hzs : z.cells.size = i.size)
    (w : World) (base : Option Addr) (sLen sCap : Nat) (hle : sLen ≤ sCap) (olds : List Value) (hlo : olds.length = sLen * i.size) (holds : ∀ b, base = some b → ∀ (j : Nat) (u : Value), olds[j]? = some u → w.cell? (b.add j) = some u)
    (hnone : base = none → sCap = 0) (xb : Option Addr) (m c : Nat) (news : List Value) (hl : news.length = m * i.size) (hnews : ∀ b, xb = some b → ∀ (j : Nat) (u : Value), news[j]? = some u → w.cell? (b.add j) = some u)
    (hxn : xb = none → m = 0) (hone : ones news) (hby : 0 < i.bytes) (hbytes : (sLen + m) * i.bytes ≤ 140737488355328) :
    (m = 0 ∧ (Builtin.append_ #[t, t] ty #[.slice base sLen sCap, .slice xb m c]).run P w = .ok (.slice base sLen sCap) w) ∨
    (0 < m ∧ sLen + m ≤ sCap ∧ ∀ b off, base = some ⟨b, off, none⟩ → (∀ j, j < news.length → (w.cell? ⟨b, off + sLen * i.size + j, none⟩).isSome = true) → (∀ j, j < news.length → w.frozen? ⟨b, off + sLen * i.size + j, none⟩ = false) →
      (Builtin.append_ #[t, t] ty #[.slice base sLen sCap, .slice xb m c]).run P w = .ok (.slice (some ⟨b, off, none⟩) (sLen + m) sCap) (w.setCells b (off + sLen * i.size) news)) ∨
    (0 < m ∧ sCap < sLen + m ∧ ∃ (cap : Nat) (rest : Array Value), sLen + m ≤ cap ∧ cap ≤ maxLen ∧ rest.size = (cap - (sLen + m)) * i.size ∧
      (Builtin.append_ #[t, t] ty #[.slice base sLen sCap, .slice xb m c]).run P w = .ok (.slice (some ⟨w.heap.size, 0, none⟩) (sLen + m) cap) (w.drew.alloc (.cells (olds.toArray ++ news.toArray ++ rest) e))) := by
  have hsm : sLen + m ≤ 140737488355328 := Nat.le_trans (Nat.le_mul_of_pos_right _ hby) hbytes
  have hmx : sLen + m ≤ maxLen := by simp only [maxLen]; omega
  rcases Nat.eq_zero_or_pos m with rfl | hm
  · exact .inl ⟨rfl, run_append_zero ht hi base xb sLen sCap c hle w⟩
  · refine .inr ?_
    cases xb with
    | none => exact absurd (hxn rfl) (by omega)
    | some a =>
      have hnews := hnews a rfl
      rcases Nat.lt_or_ge sCap (sLen + m) with hg | hg
      · refine .inr ⟨hm, hg, ?_⟩
        cases base with
        | none =>
          have hc0 := hnone rfl
          have hs0 : sLen = 0 := by omega
          subst hc0 hs0
          have ho : olds = [] := List.eq_nil_of_length_eq_zero (by simpa using hlo)
          subst ho
          have hr := run_append_nil (P := P) w t ty e i z ht hi hz a m c news hl hnews hm (by omega) (by simp at hbytes; omega)
          refine ⟨grownCap w m 0 e, Builtin.zeroCells z.cells (grownCap w m 0 e - m), by simpa using grownCap_ge w m 0 e, grownCap_le_maxLen w m 0 e (by omega), by simp [size_zeroCells, hzs], ?_⟩
          simpa using hr
        | some b =>
          have hr := run_append_grow (P := P) w t ty e i z ht hi hz b sLen sCap olds hlo (holds b rfl) a m c news hl hnews hg (by omega) (growslice_fits hg hbytes)
          exact ⟨grownCap w (sLen + m) sCap e, Builtin.zeroCells z.cells (grownCap w (sLen + m) sCap e - (sLen + m)), grownCap_ge w _ _ e, grownCap_le_maxLen w _ _ e hmx, by simp [size_zeroCells, hzs], hr⟩
      · refine .inl ⟨hm, hg, fun b off hb hc hf => ?_⟩
        subst hb
        exact run_append_room_cells (P := P) w t ty e i ht hi b off sLen sCap a m c news hl hnews hone hg hc hf

/-- The cells of a slice that is read: the handle read, how many elements, the cells. -/
def view (lkf : Nat → Option (List VV)) : VV → Option (List Nat × Nat × List VV)
  | .sl h off n wd => match lkf h with
    | some cs => (match Nat.beq off 0 && Nat.beq (n * wd) cs.length with
      | true => some ([h], n, cs)
      | false => (match Nat.ble (off + n * wd) cs.length with
        | true => some ([h], n, (cs.drop off).take (n * wd))
        | false => none))
    | none => none
  | .ds _ n es => some ([], n, es)
  | _ => none
theorem view_ok {c : Cf} (H : HRel c) {lkf : Nat → Option (List VV)} {x : VV} {y : Value} {rd : List Nat} {m : Nat} {xs : List VV} (h : view lkf x = some (rd, m, xs)) (hr : VR c.env x y) (hrd : ∀ h ∈ rd, c.look h = lkf h) :
    ∃ xb cap news, y = .slice xb m cap ∧ m ≤ cap ∧ (xb = none → m = 0) ∧ VRs c.env xs news ∧ ones news ∧ (∀ b, xb = some b → ∀ (j : Nat) (u : Value), news[j]? = some u → c.w.cell? (b.add j) = some u) := by
  unfold view at h
  split at h
  · rename_i hd off n wd
    split at h
    · rename_i cs hl
      have h : rd = [hd] ∧ m = n ∧ xs = (cs.drop off).take (n * wd) ∧ off + n * wd ≤ cs.length := by
        split at h
        · rename_i hw; cases h; exact ⟨rfl, rfl, (whole_of hw).1, (whole_of hw).2⟩
        · split at h
          · rename_i hw; cases h; exact ⟨rfl, rfl, rfl, Nat.le_of_ble_eq_true hw⟩
          · cases h
      obtain ⟨rfl, rfl, rfl, hle⟩ := h
      · simp only [VR] at hr
        rcases hr with ⟨k1, rfl, rfl, ao, rfl⟩ | ⟨b, cap, k1, rfl, k2, _, uq, Tq, fq, hq, _⟩
        · exact ⟨ao, 0, [], rfl, Nat.le_refl _, fun _ => rfl, by simp [VRs], by simp [ones], by simp⟩
        · obtain ⟨us, T, fr, g1, g2, g3, g4, g5, g6⟩ := blk_cells H (by rw [hrd hd (by simp)]; exact hl) k1 ⟨uq, Tq, fq, hq⟩
          refine ⟨some ⟨b, off, none⟩, cap, (((us.toList.take cs.length)).drop off).take (m * wd), rfl, k2, by simp, (g4.drop _).take _, ones_take (ones_drop g5 _) _, ?_⟩
          intro b' hb' j u hu
          cases hb'
          rw [List.getElem?_take] at hu
          split at hu
          · rw [List.getElem?_drop, List.getElem?_take] at hu
            split at hu
            · rw [Addr.add_lit]
              exact (g6 _ _ (by simpa using hu)).1
            · cases hu
          · cases hu
    · cases h
  · rename_i full n es
    cases h
    simp only [VR] at hr
    rcases hr with ⟨rfl, rfl, ao, rfl⟩ | ⟨b, off, cap, hA, hb, rfl, h1, _, us, h3, h4, h5⟩
    · exact ⟨ao, 0, [], rfl, Nat.le_refl _, fun _ => rfl, by simp [VRs], by simp [ones], by simp⟩
    · refine ⟨some ⟨b, off, none⟩, cap, us, rfl, h1, by simp, h4, h5, ?_⟩
      intro b' hb' j u hu
      cases hb'
      rw [Addr.add_lit]
      exact h3 j u hu
  · cases h

section
variable {P : Program} {G : Globs} {Γ : Tab} (hΓ : TabOk P Γ) {o : Oper} {Tv : Operand → VV} {lkf : Nat → Option (List VV)} {n : Nat}
include hΓ

omit hΓ in
theorem Le.keep_VRs {c c' : Cf} (h : Le c c') {cs : List VV} {us : List Value} (k : VRs c.env cs us) : VRs c'.env cs us := VRs.keep h.keep cs k

omit hΓ in
theorem newOnly.trans {ρ ρ' ρ'' : Nat → Option (Option Nat)} {n m : Nat} (h : newOnly ρ ρ' n m) (k : newOnly ρ' ρ'' n m) : newOnly ρ ρ'' n m := fun x hx => by
  rcases k x hx with h1 | h1
  · exact h x h1
  · exact .inr h1

/-- append onto an owned row, at a state. -/
theorem append_core {s x : Operand} {t e : TypeId} {r : TR} {h k m : Nat} {cs xs : List VV} {rd : List Nat} (hop : o.op = .call { callee := .builtin .append, args := #[s, x], argTypes := #[t, t] })
    (ht : sliceOf Γ t = some (e, r)) (hcs : cs.length = k * r.size) (hxs : xs.length = m * r.size) (hp : 0 < r.size) (hby : 0 < r.bytes)
    (hb : (k + m) * r.bytes ≤ 140737488355328) {c : Cf} {a : Act} (H : HRel c) (h1 : VR c.env (.sl h 0 k r.size) (a.eval s)) {xb : Option Addr} {xc : Nat} {news : List Value} (hy : a.eval x = .slice xb m xc)
    (x1 : m ≤ xc) (x2 : xb = none → m = 0) (x3 : VRs c.env xs news) (x4 : ones news) (x5 : ∀ b, xb = some b → ∀ (j : Nat) (u : Value), news[j]? = some u → c.w.cell? (b.add j) = some u)
    (hfn : c.ρ n = none) (hlc : c.look h = some cs) : OGoes P o a c.w (Leaves c n ⟨.sl n 0 (k + m) r.size, h :: rd, [(h, none), (n, some (cs ++ xs))], 1⟩) := by
  obtain ⟨hu, hre⟩ := sliceOf_ok hΓ ht
  obtain ⟨_, i, z, _, _, e3, e4, e5, e6, _, e8, _⟩ := (hΓ e r hre).ex
  have hnl := x3.length
  have run : ∀ v w', (Builtin.append_ #[t, t] o.type #[a.eval s, a.eval x]).run P c.w = .ok v w' → Leaves c n ⟨.sl n 0 (k + m) r.size, h :: rd, [(h, none), (n, some (cs ++ xs))], 1⟩ v w' → OGoes P o a c.w (Leaves c n ⟨.sl n 0 (k + m) r.size, h :: rd, [(h, none), (n, some (cs ++ xs))], 1⟩) := by
    intro v w' g1 g2
    unfold OGoes
    have : (execOp a.eval o).run P c.w = .ok (.value v) w' := by simp [execOp, hop, resolve, invoke, builtin, g1]
    rw [this]; exact g2
  -- a new row
  have grown : ∀ (cap : Nat) (rest olds : Array Value), VRs c.env cs olds.toList → ones olds.toList → k + m ≤ cap → cap ≤ maxLen → rest.size = (cap - (k + m)) * i.size →
      Leaves c n ⟨.sl n 0 (k + m) r.size, h :: rd, [(h, none), (n, some (cs ++ xs))], 1⟩ (.slice (some ⟨c.w.heap.size, 0, none⟩) (k + m) cap) (c.w.drew.alloc (.cells (olds ++ news.toArray ++ rest) e)) := by
    intro cap rest olds q1 q2 q3 q4 q5
    obtain ⟨c1, k1, k2, k3, k4, k5, k6⟩ := kill_ok H h
    have ql := q1.length
    have hlen : (cs ++ xs).length = olds.toList.length + news.length := by rw [List.length_append, ← ql, hnl]
    have htake : ((olds ++ news.toArray ++ rest).toList).take (cs ++ xs).length = olds.toList ++ news := by
      rw [hlen, ← List.length_append]
      simp only [Array.toList_append]
      exact List.take_left
    obtain ⟨c2, g1, g2, g3, g4, g5, g6, g7⟩ := alloc_ok k5 (n := n) (by rw [k2]; exact hfn) (w' := c.w.drew.alloc (.cells (olds ++ news.toArray ++ rest) e)) (us := olds ++ news.toArray ++ rest) (T := e) (fr := (0, 0)) (cs := cs ++ xs)
      (by rw [k1]; rfl) (by rw [k1]; rfl) (by rw [k1]; rfl) (by rw [k1]; rfl) (.inl rfl) (by simp at hlen ⊢; omega) (by rw [htake]; exact VRs.keep k6.keep _ (q1.append x3)) (by rw [htake]; exact ones_append q2 x4)
    rw [k1] at g5 g7
    refine ⟨c2, g1, g2, ?_, ?_, k6.trans g4, ?_⟩
    · rw [g3, k4]; rfl
    · simp only [VR]
      refine .inr ⟨c.w.heap.size, cap, g5, rfl, q3, q4, olds ++ news.toArray ++ rest, e, (0, 0), ?_, ?_⟩
      · show c2.w.heap[c.w.heap.size]? = _
        rw [g1]; exact g7
      · simp only [Array.size_append, List.size_toArray, q5]
        have : olds.size = k * i.size := by rw [← Array.length_toList, ql, hcs, e4]
        rw [this, hnl, hxs, e4, ← Nat.add_mul, ← Nat.add_mul]
        rw [Nat.zero_add]
        exact Nat.mul_le_mul_right _ (by omega)
    · have : newOnly c.ρ c1.ρ n 1 := newOnly.of_eq k2
      exact this.trans g6
  simp only [VR] at h1
  rcases h1 with ⟨k1, _, rfl, ao, hv⟩ | ⟨b, cap, k1, hv, k2, km, us, T, fr, k3, k4⟩
  · -- no block yet
    have hc0 : cs = [] := List.eq_nil_of_length_eq_zero (by simpa using hcs)
    subst hc0
    rcases run_append_cases (P := P) (ty := o.type) hu e3 e6 (by rw [e8, e4]) c.w ao 0 0 (Nat.le_refl _) [] (by simp) (by simp) (fun _ => rfl) xb m xc news (by rw [hnl, hxs, e4]) x5 x2 x4 (by omega) (by rw [e5]; exact hb) with ⟨rfl, hrun⟩ | ⟨_, hbad, _⟩ | ⟨hm, _, cap, rest, c1, c2, c3, hrun⟩
    · have hx0 : xs = [] := List.eq_nil_of_length_eq_zero (by simpa using hxs)
      subst hx0
      obtain ⟨c', g1, g2, g3, g4, g5, g6, g7⟩ := rename_ok H hlc k1 hfn
      refine run _ _ (by rw [hv, hy]; exact hrun) ⟨c', g1, g4, by rw [g2]; rfl, ?_, g5, g7⟩
      simp only [VR]; exact .inl ⟨g6, by simp⟩
    · omega
    · exact run _ _ (by rw [hv, hy]; exact hrun) (grown cap rest #[] (by simp [VRs]) (by simp [ones]) c1 c2 c3)
  · obtain ⟨us', T', fr', g1, g2, g3, g4, g5, g6⟩ := blk_cells H hlc k1 ⟨us, T, fr, k3⟩
    have k3' : c.w.heap[b]? = some (.cells us T fr) := k3
    rw [g1] at k3'
    cases k3'
    have holdsz : (us.toList.take cs.length).length = k * i.size := by rw [g4.length, hcs, e4]
    rcases run_append_cases (P := P) (ty := o.type) hu e3 e6 (by rw [e8, e4]) c.w (some ⟨b, 0, none⟩) k cap k2 (us.toList.take cs.length) holdsz (by
        intro b' hb' j u hu
        cases hb'
        rw [List.getElem?_take] at hu
        split at hu
        · rw [Addr.add_lit]; simpa using (g6 j u (by simpa using hu)).1
        · cases hu) (by simp) xb m xc news (by rw [hnl, hxs, e4]) x5 x2 x4 (by omega) (by rw [e5]; exact hb) with ⟨rfl, hrun⟩ | ⟨hm, hroom, hrun⟩ | ⟨hm, _, cap', rest, c1, c2, c3, hrun⟩
    · have hx0 : xs = [] := List.eq_nil_of_length_eq_zero (by simpa using hxs)
      subst hx0
      obtain ⟨c', q1, q2, q3, q4, q5, q6, q7⟩ := rename_ok H hlc k1 hfn
      refine run _ _ (by rw [hv, hy]; exact hrun) ⟨c', q1, q4, by rw [q2]; simp [fup], ?_, q5, q7⟩
      simp only [VR]
      refine .inr ⟨b, cap, q6, rfl, k2, km, us, T, fr, ?_, k4⟩
      show c'.w.heap[b]? = _
      rw [q1]; exact g1
    · have hmr : (k + m) * r.size ≤ cap * r.size := Nat.mul_le_mul_right _ hroom
      rw [Nat.add_mul] at hmr
      have hsz : cs.length + news.length ≤ us.size := by rw [hcs, hnl, hxs]; omega
      have hex : ∀ j, j < news.length → ∃ u, us[0 + k * i.size + j]? = some u := fun j hj => ⟨us[0 + k * i.size + j]'(by rw [e4, ← hcs]; omega), by simp⟩
      have hrun := hrun b 0 rfl (fun j hj => by obtain ⟨u, hu⟩ := hex j hj; rw [(g6 _ _ hu).1]; rfl) (fun j hj => by obtain ⟨u, hu⟩ := hex j hj; exact (g6 _ _ hu).2)
      have hoff : 0 + k * i.size = cs.length := by rw [e4, hcs]; omega
      rw [hoff] at hrun
      obtain ⟨s1, s2, s3, s4, s5⟩ := setCells_other b news cs.length c.w
      have s6 := setCells_heap b news cs.length c.w us T fr g1 hsz
      have hsl : (splice us.toList cs.length news).length = us.size := by rw [splice_length (by simp; omega)]; simp
      have htake : (splice us.toList cs.length news).take (cs ++ xs).length = us.toList.take cs.length ++ news := by
        have : (cs ++ xs).length = (us.toList.take cs.length ++ news).length := by simp [hnl]; omega
        unfold splice
        rw [← List.append_assoc, this, List.take_left]
      obtain ⟨c1, q1, q2, q3, q4, q5⟩ := write_ok H hlc k1 g1 s1 s2 s3 s4 s5 s6 (by simpa using hsl) (cs' := cs ++ xs) (by simp only [List.size_toArray, hsl, List.length_append]; omega) (by simp only []; rw [htake]; exact g4.append x3) (by simp only []; rw [htake]; exact ones_append g5 x4)
      obtain ⟨c', p1, p2, p3, p4, p5, p6, p7⟩ := rename_ok q4 (hd := h) (n := n) (cs := cs ++ xs) (by rw [q3]; simp) (by rw [q2]; exact k1) (by rw [q2]; exact hfn)
      refine run _ _ (by rw [hv, hy]; exact hrun) ⟨c', by rw [p1, q1], p4, ?_, ?_, q5.trans p5, ?_⟩
      · rw [p2, q3]
        funext h'
        simp only [fup]
        split
        · rfl
        · split
          · rfl
          · rename_i e1 e2; simp [e2]
      · simp only [VR]
        refine .inr ⟨b, cap, p6, rfl, hroom, km, (splice us.toList cs.length news).toArray, T, fr, ?_, ?_⟩
        · show c'.w.heap[b]? = _
          rw [p1, q1]; exact s6
        · simp only [List.size_toArray, hsl]; omega
      · rw [q2] at p7; exact p7
    · refine run _ _ (by rw [hv, hy]; exact hrun) ?_
      have := grown cap' rest (us.toList.take cs.length).toArray (by simpa using g4) (by simpa using g5) c1 c2 c3
      simpa using this

omit hΓ in
theorem OGoes.mono {a : Act} {w : World} {R R' : Value → World → Prop} (h : OGoes P o a w R) (k : ∀ u w', R u w' → R' u w') : OGoes P o a w R' := by
  unfold OGoes at h ⊢
  split at h
  · exact k _ _ h
  · exact k _ _ h
  · exact Calls.mono h fun e w'' ⟨u, he, hR⟩ => ⟨u, he, k _ _ hR⟩
  · exact h.elim
omit hΓ in
/-- Of a block's cells only the first ones are looked at. -/
theorem shrink_ok {c : Cf} (H : HRel c) {hd : Nat} {cs : List VV} (q : Nat) (hl : c.look hd = some cs) (hq : c.ρ hd = some none ∨ ∃ b us T fr, c.ρ hd = some (some b) ∧ c.w.heap[b]? = some (.cells us T fr)) :
    HRel ⟨c.ρ, c.A, fun h' => if h' = hd then some (cs.take q) else c.look h', c.w⟩ ∧ Le c ⟨c.ρ, c.A, fun h' => if h' = hd then some (cs.take q) else c.look h', c.w⟩ := by
  have old : ∀ h cs', (if h = hd then some (cs.take q) else c.look h) = some cs' → ∃ cs2, c.look h = some cs2 := fun h cs' k => by
    by_cases e : h = hd
    · subst e; exact ⟨cs, hl⟩
    · rw [if_neg e] at k; exact ⟨cs', k⟩
  refine ⟨⟨fun h cs' k => ?_, fun h h' cs1 cs2 x k1 k2 k3 k4 => ?_⟩, ⟨Env.Keep.refl _, rfl, rfl, rfl, fun x hx ho => ⟨rfl, fun ⟨h, cs', k1, k2⟩ => ?_⟩, fun x hx => .inl hx⟩⟩
  · by_cases e : h = hd
    · subst e
      have k : some (cs.take q) = some cs' := by simpa using k
      cases k
      rcases H.blk h cs hl with ⟨g1, g2⟩ | ⟨b, g1, g2⟩
      · exact .inl ⟨g1, by rw [g2]; simp⟩
      · refine .inr ⟨b, g1, ?_⟩
        rcases hq with hq | ⟨b', us, T, fr, hq, hb⟩
        · rw [g1] at hq; cases hq
        · rw [g1] at hq; cases hq
          obtain ⟨f1, f2, f3, f4, f5⟩ := g2.cells (show c.env.w.heap[b]? = some (.cells us T fr) from hb)
          have hle : (cs.take q).length ≤ cs.length := by rw [List.length_take]; omega
          have ht : us.toList.take (cs.take q).length = (us.toList.take cs.length).take q := by
            rw [List.take_take, List.length_take]
          refine ⟨f1, .inl ⟨us, T, fr, hb, f2, Nat.le_trans hle f3, ?_, ?_⟩⟩
          · rw [ht]; exact f4.take q
          · rw [ht]; exact ones_take f5 q
    · exact H.blk h cs' (by simpa only [if_neg e] using k)
  · obtain ⟨a1, g1⟩ := old h cs1 k1
    obtain ⟨a2, g2⟩ := old h' cs2 k2
    exact H.inj h h' a1 a2 x g1 g2 k3 k4
  · obtain ⟨a1, g1⟩ := old h cs' k1
    exact ho ⟨h, a1, g1, k2⟩
/-- append onto the first part of an owned row. -/
theorem evok_append_part {s x : Operand} {t e : TypeId} {r : TR} {h k m : Nat} {cs xs : List VV} {rd : List Nat} (hop : o.op = .call { callee := .builtin .append, args := #[s, x], argTypes := #[t, t] })
    (ht : sliceOf Γ t = some (e, r)) (hs : Tv s = .sl h 0 k r.size) (hl : lkf h = some cs) (hcs : k * r.size ≤ cs.length) (hx : view lkf (Tv x) = some (rd, m, xs)) (hxs : xs.length = m * r.size) (hp : 0 < r.size) (hby : 0 < r.bytes)
    (hb : (k + m) * r.bytes ≤ 140737488355328) (hne : h ≠ n) : EvOk P G o Tv lkf n ⟨.sl n 0 (k + m) r.size, h :: rd, [(h, none), (n, some (cs.take (k * r.size) ++ xs))], 1⟩ := by
  refine ⟨fun p hp => ?_, fun c a H hG hr hrd hf => ?_⟩
  · simp at hp
    rcases hp with rfl | rfl
    · exact .inl (by simp)
    · exact .inr ⟨Nat.le_refl _, by simp⟩
  rw [hop] at hr
  have h1 := hr s (by simp [Op.operands, Call.operands])
  have h2 := hr x (by simp [Op.operands, Call.operands])
  rw [hs] at h1
  obtain ⟨xb, xc, news, hy, x1, x2, x3, x4, x5⟩ := view_ok H hx h2 (fun q hq => hrd q (by simp [hq]))
  have hfn : c.ρ n = none := by simpa using hf 0 (by simp)
  have hlc : c.look h = some cs := by rw [hrd h (by simp)]; exact hl
  obtain ⟨H0, L0⟩ := shrink_ok H (k * r.size) hlc (by
    simp only [VR] at h1
    rcases h1 with ⟨g, _⟩ | ⟨b, cap, g1, _, _, _, us, T, fr, g2, _⟩
    · exact .inl g
    · exact .inr ⟨b, us, T, fr, g1, g2⟩)
  have := append_core hΓ (rd := rd) hop ht (cs := cs.take (k * r.size)) (by rw [List.length_take]; omega) hxs hp hby hb (a := a) H0 h1 hy x1 x2 x3 x4 x5 hfn (by simp)
  refine OGoes.mono this fun u w' ⟨c', g1, g2, g3, g4, g5, g6⟩ => ⟨c', g1, g2, ?_, g4, L0.trans g5, g6⟩
  rw [g3]
  funext h'
  simp only [fup]
  split
  · rfl
  · split
    · rfl
    · rename_i e1 e2
      simp [e1, e2]
/-- append onto an owned row. -/
theorem evok_append {s x : Operand} {t e : TypeId} {r : TR} {h k m : Nat} {cs xs : List VV} {rd : List Nat} (hop : o.op = .call { callee := .builtin .append, args := #[s, x], argTypes := #[t, t] })
    (ht : sliceOf Γ t = some (e, r)) (hs : Tv s = .sl h 0 k r.size) (hl : lkf h = some cs) (hcs : cs.length = k * r.size) (hx : view lkf (Tv x) = some (rd, m, xs)) (hxs : xs.length = m * r.size) (hp : 0 < r.size) (hby : 0 < r.bytes)
    (hb : (k + m) * r.bytes ≤ 140737488355328) (hne : h ≠ n) : EvOk P G o Tv lkf n ⟨.sl n 0 (k + m) r.size, h :: rd, [(h, none), (n, some (cs ++ xs))], 1⟩ := by
  have := evok_append_part hΓ (G := G) (n := n) hop ht hs hl (Nat.le_of_eq hcs.symm) hx hxs hp hby hb hne
  rwa [← hcs, List.take_length] at this
end
section
variable {P : Program} {G : Globs} {Γ : Tab} (hΓ : TabOk P Γ) {o : Oper} {Tv : Operand → VV} {lkf : Nat → Option (List VV)} {n : Nat}
include hΓ

/-- append onto a slice without spare room that is only read: a new row. -/
theorem evok_append_full {s x : Operand} {t e : TypeId} {r : TR} {k m : Nat} {es xs : List VV} {rd : List Nat} (hop : o.op = .call { callee := .builtin .append, args := #[s, x], argTypes := #[t, t] })
    (ht : sliceOf Γ t = some (e, r)) (hs : Tv s = .ds true k es) (hes : es.length = k * r.size) (hx : view lkf (Tv x) = some (rd, m, xs)) (hxs : xs.length = m * r.size) (hp : 0 < r.size) (hby : 0 < r.bytes)
    (hb : (k + m) * r.bytes ≤ 140737488355328) (hkm : k = 0 ∨ 0 < m) : EvOk P G o Tv lkf n ⟨.sl n 0 (k + m) r.size, rd, [(n, some (es ++ xs))], 1⟩ := by
  refine ⟨fun p hp => ?_, fun c a H hG hr hrd hf => ?_⟩
  · simp at hp; subst hp
    exact .inr ⟨Nat.le_refl _, by simp⟩
  rw [hop] at hr
  have h1 := hr s (by simp [Op.operands, Call.operands])
  have h2 := hr x (by simp [Op.operands, Call.operands])
  rw [hs] at h1
  obtain ⟨xb, xc, news, hy, x1, x2, x3, x4, x5⟩ := view_ok H hx h2 (fun q hq => hrd q hq)
  have hfn : c.ρ n = none := by simpa using hf 0 (by simp)
  obtain ⟨hu, hre⟩ := sliceOf_ok hΓ ht
  obtain ⟨_, i, z, _, _, e3, e4, e5, e6, _, e8, _⟩ := (hΓ e r hre).ex
  have hnl := x3.length
  have run : ∀ v w', (Builtin.append_ #[t, t] o.type #[a.eval s, a.eval x]).run P c.w = .ok v w' → Leaves c n ⟨.sl n 0 (k + m) r.size, rd, [(n, some (es ++ xs))], 1⟩ v w' → OGoes P o a c.w (Leaves c n ⟨.sl n 0 (k + m) r.size, rd, [(n, some (es ++ xs))], 1⟩) := by
    intro v w' g1 g2
    unfold OGoes
    have : (execOp a.eval o).run P c.w = .ok (.value v) w' := by simp [execOp, hop, resolve, invoke, builtin, g1]
    rw [this]; exact g2
  have grown : ∀ (cap : Nat) (rest olds : Array Value), VRs c.env es olds.toList → ones olds.toList → k + m ≤ cap → cap ≤ maxLen → rest.size = (cap - (k + m)) * i.size →
      Leaves c n ⟨.sl n 0 (k + m) r.size, rd, [(n, some (es ++ xs))], 1⟩ (.slice (some ⟨c.w.heap.size, 0, none⟩) (k + m) cap) (c.w.drew.alloc (.cells (olds ++ news.toArray ++ rest) e)) := by
    intro cap rest olds q1 q2 q3 q4 q5
    have ql := q1.length
    have hlen : (es ++ xs).length = olds.toList.length + news.length := by rw [List.length_append, ← ql, hnl]
    have htake : ((olds ++ news.toArray ++ rest).toList).take (es ++ xs).length = olds.toList ++ news := by
      rw [hlen, ← List.length_append]
      simp only [Array.toList_append]
      exact List.take_left
    obtain ⟨c2, g1, g2, g3, g4, g5, g6, g7⟩ := alloc_ok H (n := n) hfn (w' := c.w.drew.alloc (.cells (olds ++ news.toArray ++ rest) e)) (us := olds ++ news.toArray ++ rest) (T := e) (fr := (0, 0)) (cs := es ++ xs)
      rfl rfl rfl rfl (.inl rfl) (by simp at hlen ⊢; omega) (by rw [htake]; exact q1.append x3) (by rw [htake]; exact ones_append q2 x4)
    refine ⟨c2, g1, g2, ?_, ?_, g4, g6⟩
    · rw [g3]; rfl
    · simp only [VR]
      refine .inr ⟨c.w.heap.size, cap, g5, rfl, q3, q4, olds ++ news.toArray ++ rest, e, (0, 0), ?_, ?_⟩
      · show c2.w.heap[c.w.heap.size]? = _
        rw [g1]; exact g7
      · simp only [Array.size_append, List.size_toArray, q5]
        have : olds.size = k * i.size := by rw [← Array.length_toList, ql, hes, e4]
        rw [this, hnl, hxs, e4, ← Nat.add_mul, ← Nat.add_mul]
        rw [Nat.zero_add]
        exact Nat.mul_le_mul_right _ (by omega)
  have null : ∀ ao, k = 0 → m = 0 → Leaves c n ⟨.sl n 0 (k + m) r.size, rd, [(n, some (es ++ xs))], 1⟩ (.slice ao 0 0) c.w := by
    rintro ao rfl rfl
    have h0 : es = [] := List.eq_nil_of_length_eq_zero (by simpa using hes)
    have h00 : xs = [] := List.eq_nil_of_length_eq_zero (by simpa using hxs)
    subst h0 h00
    obtain ⟨c', g1, g2, g3, g4, g5, g6, g7⟩ := null_ok H hfn
    refine ⟨c', g1, g4, by rw [g2]; rfl, ?_, g5, g7⟩
    simp only [VR]; exact .inl ⟨g6, by simp⟩
  simp only [VR] at h1
  rcases h1 with ⟨rfl, rfl, ao, hv⟩ | ⟨b, off, cap, k1, _, hv, k2, k3, us, k4, k5, k6⟩
  · rcases run_append_cases (P := P) (ty := o.type) hu e3 e6 (by rw [e8, e4]) c.w ao 0 0 (Nat.le_refl _) [] (by simp) (by simp) (fun _ => rfl) xb m xc news (by rw [hnl, hxs, e4]) x5 x2 x4 (by omega) (by rw [e5]; exact hb) with ⟨rfl, hrun⟩ | ⟨_, hbad, _⟩ | ⟨hm, _, cap, rest, c1, c2, c3, hrun⟩
    · exact run _ _ (by rw [hv, hy]; exact hrun) (null ao rfl rfl)
    · omega
    · exact run _ _ (by rw [hv, hy]; exact hrun) (grown cap rest #[] (by simp [VRs]) (by simp [ones]) c1 c2 c3)
  · have hcap : cap = k := by simpa using k3
    subst hcap
    have hus := k5.length
    rcases run_append_cases (P := P) (ty := o.type) hu e3 e6 (by rw [e8, e4]) c.w (some ⟨b, off, none⟩) cap cap (Nat.le_refl _) us (by rw [hus, hes, e4]) (by
        intro b' hb' j u hu
        cases hb'
        rw [Addr.add_lit]; exact k4 j u hu) (by simp) xb m xc news (by rw [hnl, hxs, e4]) x5 x2 x4 (by omega) (by rw [e5]; exact hb) with ⟨rfl, hrun⟩ | ⟨hm, hroom, hrun⟩ | ⟨hm, _, cap', rest, c1, c2, c3, hrun⟩
    · have hk0 : cap = 0 := by omega
      subst hk0
      exact run _ _ (by rw [hv, hy]; exact hrun) (null _ rfl rfl)
    · omega
    · refine run _ _ (by rw [hv, hy]; exact hrun) ?_
      have := grown cap' rest us.toArray (by simpa using k5) (by simpa using k6) c1 c2 c3
      simpa using this

/-- append onto a slice without spare room, of perhaps nothing: what comes is only read. -/
theorem evok_append_ds {s x : Operand} {t e : TypeId} {r : TR} {k m : Nat} {es xs : List VV} {rd : List Nat} (hop : o.op = .call { callee := .builtin .append, args := #[s, x], argTypes := #[t, t] })
    (ht : sliceOf Γ t = some (e, r)) (hs : Tv s = .ds true k es) (hes : es.length = k * r.size) (hx : view lkf (Tv x) = some (rd, m, xs)) (hxs : xs.length = m * r.size) (hp : 0 < r.size) (hby : 0 < r.bytes)
    (hb : (k + m) * r.bytes ≤ 140737488355328) : EvOk P G o Tv lkf n ⟨.ds false (k + m) (es ++ xs), rd, [(n, none)], 1⟩ := by
  rcases Nat.eq_zero_or_pos m with rfl | hm
  · -- as it was
    refine ⟨fun p hp => ?_, fun c a H hG hr hrd hf => ?_⟩
    · simp at hp; subst hp
      exact .inr ⟨Nat.le_refl _, by simp⟩
    rw [hop] at hr
    have h1 := hr s (by simp [Op.operands, Call.operands])
    have h2 := hr x (by simp [Op.operands, Call.operands])
    rw [hs] at h1
    obtain ⟨xb, xc, news, hy, x1, x2, x3, x4, x5⟩ := view_ok H hx h2 (fun q hq => hrd q hq)
    have h00 : xs = [] := List.eq_nil_of_length_eq_zero (by simpa using hxs)
    subst h00
    obtain ⟨hu, hre⟩ := sliceOf_ok hΓ ht
    obtain ⟨_, i, z, _, _, e3, e4, e5, e6, _, e8, _⟩ := (hΓ e r hre).ex
    have hfn : c.ρ n = none := by simpa using hf 0 (by simp)
    have key : ∃ base cap, a.eval s = .slice base k cap ∧ k ≤ cap := by
      have h1' := h1
      simp only [VR] at h1'
      rcases h1' with ⟨rfl, rfl, ao, hv⟩ | ⟨b, off, cap, _, _, hv, k2, _⟩
      · exact ⟨ao, 0, hv, Nat.le_refl _⟩
      · exact ⟨_, cap, hv, k2⟩
    obtain ⟨base, cap, hv, hle⟩ := key
    unfold OGoes
    have hrun := run_append_zero (P := P) (ty := o.type) hu e3 base xb k cap xc hle c.w
    have : (execOp a.eval o).run P c.w = .ok (.value (.slice base k cap)) c.w := by simp [execOp, hop, resolve, invoke, builtin, hv, hy, hrun]
    rw [this]
    obtain ⟨c', g1, g2, g3, g4, g5, g6⟩ := kill_ok H n
    refine ⟨c', g1, g5, by rw [g4]; rfl, ?_, g6, newOnly.of_eq g2⟩
    have h3 := VR.keep g6.keep _ h1
    rw [hv] at h3
    simp only [VR] at h3 ⊢
    rw [List.append_nil]
    rcases h3 with h | ⟨b, off, cap', q1, q2, q3, q4, q5, q6⟩
    · exact .inl h
    · exact .inr ⟨b, off, cap', q1, q2, q3, q4, by simp, q6⟩
  · have base := evok_append_full (G := G) hΓ (n := n) hop ht hs hes hx hxs hp hby hb (.inr hm)
    refine ⟨fun p hp => ?_, fun c a H hG hr hrd hf => ?_⟩
    · simp at hp; subst hp
      exact .inr ⟨Nat.le_refl _, by simp⟩
    have h := base.goes c a H hG hr hrd hf
    unfold OGoes at h ⊢
    have conv : ∀ u w', Leaves c n ⟨.sl n 0 (k + m) r.size, rd, [(n, some (es ++ xs))], 1⟩ u w' → Leaves c n ⟨.ds false (k + m) (es ++ xs), rd, [(n, none)], 1⟩ u w' := by
      rintro u w' ⟨c', g1, g2, g3, g4, g5, g6⟩
      simp only [VR] at g4
      rcases g4 with ⟨_, _, hbad, _⟩ | ⟨b, cap, q1, q2, q3, q4⟩
      · omega
      · obtain ⟨_, uq, Tq, fq, hq, _⟩ := q4
        have hlk : c'.look n = some (es ++ xs) := by rw [g3]; simp [fup]
        obtain ⟨c2, p1, p2, p3, p4, p5, p6⟩ := freeze_ok g2 hlk q1
        obtain ⟨us, T, fr, b1, b2, b3, b4, b5, b6⟩ := blk_cells g2 hlk q1 ⟨uq, Tq, fq, hq⟩
        refine ⟨c2, by rw [p1]; exact g1, p4, ?_, ?_, g5.trans p5, ?_⟩
        · rw [p3, g3]
          funext h'
          simp only [fup]
          split <;> rfl
        · simp only [VR]
          refine .inr ⟨b, 0, cap, p6, ?_, q2, q3, by simp, us.toList.take (es ++ xs).length, ?_, VRs.keep p5.keep _ b4, b5⟩
          · show b < c2.w.heap.size
            rw [p1]; exact (Array.getElem?_eq_some_iff.1 b1).1
          · intro j u hu
            rw [List.getElem?_take] at hu
            split at hu
            · show c2.w.cell? _ = _
              rw [p1]; simpa using (b6 j u (by simpa using hu)).1
            · cases hu
        · intro x hx; rw [p2] at hx; exact g6 x hx
    split at h
    · exact conv _ _ h
    · exact conv _ _ h
    · exact Calls.mono h fun e w'' ⟨u, he, hR⟩ => ⟨u, he, conv _ _ hR⟩
    · exact h.elim
end
end Go.Proofs.Ytilmfdlonpjjiaa
