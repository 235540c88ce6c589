/- ORDERS: a load may be taken first, if nobody writes its cell before a last step that waits for it; over any program. -/
import Derived.WalkKit
import Derived.OrdersHeld
import Derived.RegionTactic
namespace Go.Proofs.YtgagophijmiceaaDoor
set_option linter.unusedSimpArgs false
set_option linter.unusedVariables false
namespace Rt
section
variable {P : Program} {ops : Array Oper} {Q : Exit → Act → World → Prop} {md : Region.Mode} {S : Option Nat → World → Prop}

/-- A condition is asked for ever, or till number k comes up. -/
def live : Option Nat → Array Bool → Prop
  | none, _ => True
  | some k, listed => listed.getD k true = false
/-- Whatever order is picked; the conditions hold as long as they are asked. -/
def AnyC (P : Program) (md : Region.Mode) (ops : Array Oper) (Q : Exit → Act → World → Prop) (S : Option Nat → World → Prop) : Nat → Array Bool → Act → World → Prop
  | 0, listed, a, w => Region.ready md ops listed = [] ∧ Q .normal a w
  | fuel + 1, listed, a, w =>
    (Region.ready md ops listed = [] → Q .normal a w) ∧
    ∀ i ∈ Region.ready md ops listed, wpOp P ops Q i (fun a' w' => (∀ o, live o (listed.setIfInBounds i true) → S o w') ∧ AnyC P md ops Q S fuel (listed.setIfInBounds i true) a' w') a w
theorem any_of_C : ∀ (fuel : Nat) (listed : Array Bool) (a : Act) (w : World), AnyC P md ops Q S fuel listed a w → wpAny P md ops Q fuel listed a w
  | 0, _, _, _, h => h
  | fuel + 1, _, _, _, h => ⟨h.1, fun i hi => wpOp_mono (fun a' w' h' => any_of_C fuel _ a' w' h'.2) (h.2 i hi)⟩
/-- Does number k wait for number i? -/
def waits (md : Region.Mode) (ops : Array Oper) (k i : Nat) : Bool := match ops[k]? with
  | some o => o.after.any fun e => Region.binds md e && e.on == i
  | none => false
def okC (md : Region.Mode) (ops : Array Oper) (listed : Array Bool) (i : Nat) : Option Nat → Bool
  | none => true
  | some k => i != k && waits md ops k i && !(listed.getD k true)
theorem C_first {i : Nat} {oi : Oper} {v : Value} {o : Option Nat} (hi : ops[i]? = some oi) (hsel : ∀ (j : Nat) (o : Oper) cs b, ops[j]? = some o → o.op ≠ .select cs b)
    (hQ : ∀ c a w, Q (.panic c) (a.put oi.dst v) w → Q (.panic c) a w) (hSi : ∀ w, S (some i) w) :
    ∀ (fuel : Nat) (listed : Array Bool) (a : Act) (w : World), okC md ops listed i o = true →
      (∀ j oj, ops[j]? = some oj → j ≠ i → listed.getD j true = false → (∀ e ∈ oj.after, Region.binds md e = true → e.on ≠ i) → oi.apart ops oj = true) →
      i ∈ Region.ready md ops listed → YieldsIf P ops (S o) oi v a → (∀ o', live o' listed → S o' w) →
      AnyC P md ops Q S fuel (listed.setIfInBounds i true) (a.put oi.dst v) w → AnyC P md ops Q S (fuel + 1) listed a w := by
  have hlv : ∀ {listed : Array Bool}, okC md ops listed i o = true → live o listed := fun {listed} h => by
    cases o with
    | none => trivial
    | some k =>
      unfold okC at h
      rw [Bool.and_eq_true, Bool.not_eq_true'] at h
      exact h.2
  have hmono : ∀ {listed : Array Bool} {o' : Option Nat} {j : Nat}, live o' (listed.setIfInBounds j true) → live o' listed := fun {listed o' j} h => by
    cases o' with
    | none => trivial
    | some k =>
      by_cases e : j = k
      · subst e
        have h' : (listed.setIfInBounds j true).getD j true = false := h
        rcases Nat.lt_or_ge j listed.size with h0 | h0
        · simp [Array.getD, h0] at h'
        · simp [Array.getD, Nat.not_lt.2 h0] at h'
      · have h' : (listed.setIfInBounds j true).getD k true = false := h
        rw [getD_set_ne true e] at h'
        exact h'
  intro fuel
  induction fuel with
  | zero =>
    intro listed a w hk _ hr hy hS H
    refine ⟨fun h => (by rw [h] at hr; cases hr), fun j hj => ?_⟩
    by_cases hji : j = i
    · subst hji; exact hy.wpOp hi (hS _ (hlv hk)) ⟨fun o' h' => hS o' (hmono h'), H⟩
    · have := ready_mono hj hji
      rw [H.1] at this
      cases this
  | succ fuel ih =>
    intro listed a w hk hfree hr hy hS H
    refine ⟨fun h => (by rw [h] at hr; cases hr), fun j hj => ?_⟩
    by_cases hji : j = i
    · subst hji; exact hy.wpOp hi (hS _ (hlv hk)) ⟨fun o' h' => hS o' (hmono h'), H⟩
    · have h1 := H.2 j (ready_mono hj hji)
      obtain ⟨hjun, oj, hoj, hall⟩ := mem_ready.1 hj
      have hnot : ∀ e ∈ oj.after, Region.binds md e = true → e.on ≠ i := fun e he hb heq => by
        have h1 := hall e he hb
        have h0 := (mem_ready.1 hr).1
        rw [heq] at h1
        rcases Nat.lt_or_ge i listed.size with h' | h'
        · simp [h'] at h0 h1; rw [h0] at h1; cases h1
        · simp [Array.getElem?_eq_none h'] at h1
      have hok2 : okC md ops (listed.setIfInBounds j true) i o = true := by
        cases o with
        | none => rfl
        | some k =>
          have hk' := hk
          unfold okC at hk ⊢
          rw [Bool.and_eq_true, Bool.and_eq_true, bne_iff_ne, Bool.not_eq_true'] at hk
          have hjk : j ≠ k := fun e => by
            subst e
            have hw := hk.1.2
            unfold waits at hw
            rw [hoj] at hw
            obtain ⟨e, he, hb⟩ := Array.any_eq_true'.1 hw
            rw [Bool.and_eq_true, beq_iff_eq] at hb
            exact hnot e he hb.1 hb.2
          rw [Bool.and_eq_true, Bool.and_eq_true, bne_iff_ne, Bool.not_eq_true', getD_set_ne true hjk]
          exact hk
      have h2 := wpOp_putIf hoj (hfree j oj hoj hji hjun hnot) (fun cs b => hsel i oi cs b hi) (fun cs b => hsel j oj cs b hoj) hQ hy h1
      have hfree' : ∀ l ol, ops[l]? = some ol → l ≠ i → (listed.setIfInBounds j true).getD l true = false →
          (∀ e ∈ ol.after, Region.binds md e = true → e.on ≠ i) → oi.apart ops ol = true := fun l ol hl hli hun hno => by
        refine hfree l ol hl hli ?_ hno
        by_cases hjl : j = l
        · subst hjl; exact hjun
        · rw [getD_set_ne true hjl] at hun; exact hun
      refine wpOp_mono (fun a' w' h3 => ?_) h2
      have hS' : ∀ o', live o' (listed.setIfInBounds j true) → S o' w' := fun o' h' => by
        cases o' with
        | none => exact h3.2.1 none trivial
        | some k =>
          by_cases e : i = k
          · rw [← e]; exact hSi w'
          · refine h3.2.1 (some k) ?_
            show ((listed.setIfInBounds i true).setIfInBounds j true).getD k true = false
            rw [Array.setIfInBounds_comm _ _ (Ne.symm hji), getD_set_ne true e]
            exact h'
      refine ⟨hS', ih (listed.setIfInBounds j true) a' w' hok2 hfree' (ready_mono hr (Ne.symm hji)) h3.1 hS' ?_⟩
      rw [Array.setIfInBounds_comm _ _ hji]
      exact h3.2.2
theorem C_take {i : Nat} {oi : Oper} {v : Value} {fuel : Nat} {listed : Array Bool} {a : Act} {w : World} (o : Option Nat) (hi : ops[i]? = some oi)
    (hs : Region.noSelect ops = true) (hf : Region.free md ops listed i = true) (hr : (Region.ready md ops listed).contains i = true) (hw : okC md ops listed i o = true)
    (hQ : ∀ c a w, Q (.panic c) (a.put oi.dst v) w → Q (.panic c) a w) (hSi : ∀ w, S (some i) w) (hy : YieldsIf P ops (S o) oi v a) (hS : ∀ o', live o' listed → S o' w)
    (h : AnyC P md ops Q S fuel (listed.setIfInBounds i true) (a.put oi.dst v) w) : AnyC P md ops Q S (fuel + 1) listed a w :=
  C_first hi (Region.noSelect_spec hs) hQ hSi fuel listed a w hw (Region.free_spec hi hf) (by simpa using hr) hy hS h
def AllC (P : Program) (md : Region.Mode) (ops : Array Oper) (Q : Exit → Act → World → Prop) (S : Option Nat → World → Prop) (fuel : Nat) (listed : Array Bool) (a : Act) (w : World) (rs : List Nat) : Prop :=
  ∀ i ∈ rs, wpOp P ops Q i (fun a' w' => (∀ o, live o (listed.setIfInBounds i true) → S o w') ∧ AnyC P md ops Q S fuel (listed.setIfInBounds i true) a' w') a w
theorem AllC.nil {fuel : Nat} {listed : Array Bool} {a : Act} {w : World} : AllC P md ops Q S fuel listed a w [] := fun _ h => by cases h
theorem AllC.cons {fuel : Nat} {listed : Array Bool} {a : Act} {w : World} {i : Nat} {o : Oper} {rs : List Nat} (ho : ops[i]? = some o) (hw : Region.wanted o (yielded ops a.tmps) = true)
    (h : ∀ K' : Act → World → Prop, (∀ a' w', (∀ o, live o (listed.setIfInBounds i true) → S o w') → AnyC P md ops Q S fuel (listed.setIfInBounds i true) a' w' → K' a' w') → Oper.wp P o a w K' Q)
    (hs : AllC P md ops Q S fuel listed a w rs) : AllC P md ops Q S fuel listed a w (i :: rs) := fun j hj => by
  rcases List.mem_cons.1 hj with rfl | hj
  · unfold wpOp
    rw [ho]
    dsimp only
    rw [if_pos hw]
    exact .inl (h _ fun a' w' h1 h2 => ⟨h1, h2⟩)
  · exact hs j hj
theorem C_ready {rs : List Nat} {fuel : Nat} {listed : Array Bool} {a : Act} {w : World} (hr : Region.ready md ops listed = rs) (hne : rs ≠ [])
    (h : AllC P md ops Q S fuel listed a w rs) : AnyC P md ops Q S (fuel + 1) listed a w := ⟨fun h0 => absurd (hr ▸ h0) hne, hr ▸ h⟩
theorem C_done {listed : Array Bool} {a : Act} {w : World} (hr : Region.ready md ops listed = []) (h : Q .normal a w) : ∀ fuel, AnyC P md ops Q S fuel listed a w
  | 0 => ⟨hr, h⟩
  | _ + 1 => ⟨fun _ => h, by rw [hr]; simp⟩
theorem region_Cn {id : Nat} {a : Act} {w : World} (S : Option Nat → World → Prop) (n : Nat) (listed : Array Bool) (hm : P.follows .mixedOrders = true) (hn : ops.size = n) (hl : Array.replicate n false = listed) (h : AnyC P .any ops Q S n listed a w.drew) : (Code.region id ops true).wp P Q a w := by
  refine wp_region_any hm (any_of_C (S := S) _ _ _ _ ?_)
  rw [hn, hl]
  exact h
theorem region_C {id : Nat} {a : Act} {w : World} (S : Option Nat → World → Prop) (hm : P.follows .mixedOrders = true) (h : AnyC P .any ops Q S ops.size (Array.replicate ops.size false) a w.drew) : (Code.region id ops true).wp P Q a w :=
  wp_region_any hm (any_of_C _ _ _ _ h)
end
end Rt
end Go.Proofs.YtgagophijmiceaaDoor
