/- The law of a region that draws its order, over the slots' kinds: whole (wp_region_abs), and with a forced tail that is walked as ever (wp_region_abs_tail). -/
import Derived.Test.YtfkccdmjlopleaaAbsOp
namespace Go.Proofs.Ytfkccdmjlopleaa
open Go.RowKit

section
variable {P : Program} {ops : Array Oper} {Q : Exit → Act → World → Prop} {md : Region.Mode}
theorem wpAny_inv2 (I : Array Bool → Act → World → Prop) (D : Array Bool → Prop)
    (step : ∀ i listed a w, i ∈ Region.ready md ops listed → I listed a w → ¬ D listed → wpOp P ops Q i (I (listed.setIfInBounds i true)) a w)
    (prog : ∀ listed a w, I listed a w → ¬ D listed → Region.ready md ops listed ≠ [])
    (hend : ∀ listed a w, I listed a w → D listed → wpAny P md ops Q (left ops.size listed) listed a w) :
    ∀ f listed a w, left ops.size listed = f → I listed a w → wpAny P md ops Q f listed a w := by
  intro f
  induction f with
  | zero =>
    intro listed a w hl hI
    by_cases hD : D listed
    · rw [← hl]; exact hend _ _ _ hI hD
    · exfalso
      obtain ⟨i, hi⟩ := List.exists_mem_of_ne_nil _ (prog _ _ _ hI hD)
      obtain ⟨hun, o, ho, _⟩ := mem_ready.1 hi
      have := left_set (Array.getElem?_eq_some_iff.1 ho).1 hun
      omega
  | succ f ih =>
    intro listed a w hl hI
    by_cases hD : D listed
    · rw [← hl]; exact hend _ _ _ hI hD
    · refine ⟨fun hr => absurd hr (prog _ _ _ hI hD), fun i hi => ?_⟩
      obtain ⟨hun, o, ho, _⟩ := mem_ready.1 hi
      have hs := left_set (Array.getElem?_eq_some_iff.1 ho).1 hun
      exact wpOp_mono (fun a' w' h' => ih _ a' w' (by omega) h') (step i listed a w hi hI hD)
end

section
variable {P : Program} {R : Nat} {X : Nat → World → Value → Prop} {T : Nat → List Ty}

/-- What holds of the frame with the operations' results put in, whatever they are, each of its kind. -/
def AllPuts (R : Nat) (X : Nat → World → Value → Prop) (T : Nat → List Ty) (w : World) : List (Oper × Ty) → Act → (Act → Prop) → Prop
  | [], a, K => K a
  | (o, τ) :: r, a, K => ∀ v, τ.ok R X T w v → AllPuts R X T w r (a.put o.dst v) K

theorem Act.ext' {a b : Act} (h1 : a.tmps = b.tmps) (h2 : a.defers = b.defers) : a = b := by
  cases a; cases b; simp at h1 h2; rw [h1, h2]

theorem allPuts_elim {w : World} {a' : Act} : ∀ (r : List (Oper × Ty)) (a0 : Act) (K : Act → Prop), AllPuts R X T w r a0 K → a0.defers = a'.defers → a0.tmps.size = a'.tmps.size →
    (∀ t, (∀ p ∈ r, p.1.dst ≠ some t) → a0.tmps[t]? = a'.tmps[t]?) → (∀ p ∈ r, ∃ d, p.1.dst = some d ∧ d < a'.tmps.size ∧ p.2.ok R X T w (a'.tmps.getD d undef)) → K a'
  | [], a0, K, h, h1, h2, h3, _ => by
    have : a0 = a' := Act.ext' (Array.ext_getElem? fun t => h3 t (by simp)) h1
    rw [← this]
    exact h
  | (o, τ) :: r, a0, K, h, h1, h2, h3, h4 => by
    obtain ⟨d, hd, hlt, hok⟩ := h4 (o, τ) (by simp)
    have hd' : o.dst = some d := hd
    refine allPuts_elim r _ K (h _ hok) (by rw [hd']; exact h1) (by rw [hd']; simpa [Act.put] using h2) (fun t ht => ?_) (fun p hp => h4 p (by simp [hp]))
    rw [hd']
    by_cases e : d = t
    · subst e
      simp only [Act.put]
      rw [Array.getElem?_setIfInBounds_self_of_lt (show d < a0.tmps.size by rw [h2]; exact hlt)]
      simp [hlt]
    · simp only [Act.put]
      rw [Array.getElem?_setIfInBounds_ne e]
      exact h3 t fun p hp => by
        rcases List.mem_cons.1 hp with rfl | hp
        · rw [hd]; intro e'; injection e' with e'; exact e e'
        · exact ht p hp

variable {tS tI : TypeId} {sig : FuncId → List Ty → Option Ty} {env : Tmp → Option Ty}

theorem absGo_spec {pre : List Oper} : ∀ (rest : List Oper) (tys0 tys : List Ty), (∀ j, rest[j]? = pre[tys0.length + j]?) → absGo tS tI T sig env pre rest tys0 = some tys →
    tys.length = tys0.length + rest.length ∧ (∀ i, i < tys0.length → tys[i]? = tys0[i]?) ∧
    ∀ i o, tys0.length ≤ i → pre[i]? = some o → o.guard = none ∧ (∀ e ∈ o.after, Region.binds .any e = true → e.on < i) ∧ ∃ τ, tys[i]? = some τ ∧ absOp tS tI T sig (seen pre (tys.take i) env o) o = some τ
  | [], tys0, tys, hr, h => by
    injection h with h
    subst h
    refine ⟨by simp, fun _ _ => rfl, fun i o hi ho => ?_⟩
    have := hr (i - tys0.length)
    rw [show tys0.length + (i - tys0.length) = i by omega, ho] at this
    simp at this
  | o :: rest, tys0, tys, hr, h => by
    unfold absGo at h
    split at h
    · rename_i hg
      simp only [Bool.and_eq_true, Option.isNone_iff_eq_none, List.all_eq_true, Bool.or_eq_true, Bool.not_eq_true', decide_eq_true_eq] at hg
      split at h
      · rename_i τ hτ
        obtain ⟨h1, h2, h3⟩ := absGo_spec rest (tys0 ++ [τ]) tys (fun j => by
          have := hr (j + 1)
          simpa [Nat.add_assoc, Nat.add_comm 1 j] using this) h
        refine ⟨by simp only [List.length_append, List.length_cons, List.length_nil] at h1 ⊢; omega, fun i hi => ?_, fun i o' hi ho => ?_⟩
        · rw [h2 i (by simp; omega), List.getElem?_append_left hi]
        · by_cases e : i = tys0.length
          · subst e
            have ho0 := hr 0
            rw [Nat.add_zero, ho] at ho0
            simp only [List.getElem?_cons_zero, Option.some.injEq] at ho0
            subst ho0
            have hti : tys[tys0.length]? = some τ := by rw [h2 _ (by simp)]; simp
            have htk : tys.take tys0.length = tys0 := by
              apply List.ext_getElem?
              intro j
              rw [List.getElem?_take]
              split
              · rename_i hj
                rw [h2 j (by simp; omega), List.getElem?_append_left hj]
              · rename_i hj
                exact (List.getElem?_eq_none (by omega)).symm
            refine ⟨hg.1, fun e he hb => ?_, τ, hti, by rw [htk]; exact hτ⟩
            rcases hg.2 e (by simpa using he) with h' | h'
            · rw [h'] at hb; cases hb
            · exact h'
          · exact h3 i o' (by simp; omega) ho
      · cases h
    · cases h

theorem onceB_spec : ∀ {pre : List Oper}, onceB pre = true → ∀ (i j : Nat) (o o' : Oper) (d : Tmp), pre[i]? = some o → pre[j]? = some o' → o.dst = some d → o'.dst = some d → i = j
  | [], _, i, _, _, _, _, h, _, _, _ => by simp at h
  | x :: xs, hb, i, j, o, o', d, hi, hj, hd, hd' => by
    simp only [onceB, Bool.and_eq_true] at hb
    cases i with
    | zero =>
      cases j with
      | zero => rfl
      | succ j =>
        simp only [List.getElem?_cons_zero, Option.some.injEq] at hi
        subst hi
        simp only [List.getElem?_cons_succ] at hj
        have h1 := hb.1
        rw [hd] at h1
        simp only [Bool.not_eq_true', List.any_eq_false, beq_iff_eq] at h1
        exact absurd hd' (h1 o' (List.mem_of_getElem? hj))
    | succ i =>
      cases j with
      | zero =>
        simp only [List.getElem?_cons_zero, Option.some.injEq] at hj
        subst hj
        simp only [List.getElem?_cons_succ] at hi
        have h1 := hb.1
        rw [hd'] at h1
        simp only [Bool.not_eq_true', List.any_eq_false, beq_iff_eq] at h1
        exact absurd hd (h1 o (List.mem_of_getElem? hi))
      | succ j =>
        simp only [List.getElem?_cons_succ] at hi hj
        rw [onceB_spec hb.2 i j o o' d hi hj hd hd']

/-- What holds of frame and world when the listed operations are done. -/
structure Done (P : Program) (R : Nat) (X : Nat → World → Value → Prop) (T : Nat → List Ty) (J : Nat → World → Prop) (pre : List Oper) (tys : List Ty) (a0 : Act) (w0 : World) (n : Nat) (listed : Array Bool) (a : Act) (w : World) : Prop where
  size : listed.size = n
  defers : a0.defers = a.defers
  frame : a0.tmps.size = a.tmps.size
  other : ∀ t, (∀ o ∈ pre, o.dst ≠ some t) → a0.tmps[t]? = a.tmps[t]?
  grown : w0.grownBy w (some R)
  count : ∃ k, k + left n listed = n ∧ J k w
  done : ∀ i o d τ, pre[i]? = some o → listed.getD i false = true → o.dst = some d → tys[i]? = some τ → τ.ok R X T w (a.tmps.getD d undef)

theorem Done.step (ty : IntTypes P tS tI) (hX : ∀ k w w' v, X k w v → w.grownBy w' (some R) → X k w' v) {J : Nat → World → Prop}
    (hJ1 : ∀ k w, J k w → J (k + 1) w) (hJ2 : ∀ k w o, J k w → J (k + 1) (w.alloc o)) (hJR : ∀ k w, J k w → R < w.heap.size)
    (hsig : ∀ f ts τ vs k w, sig f ts = some τ → okArgs R X T w ts vs → J k w → k < 1000 → (∀ w, (callFunc f vs.toArray).run P w = .ok (.enter f vs.toArray) w) ∧
      Calls P f vs.toArray w fun e w' => ∃ v, e = .returned v ∧ τ.ok R X T w' v ∧ J (k + 1) w' ∧ w.grownBy w' (some R))
    {l pre : List Oper} {tys : List Ty} {a0 : Act} {w0 : World} (hpre : ∀ i, i < pre.length → l[i]? = pre[i]?)
    (henv : ∀ t σ, env t = some σ → σ.ok R X T w0 (a0.tmps.getD t undef)) (habs : absGo tS tI T sig env pre pre [] = some tys) (honce : onceB pre = true)
    (hfit : ∀ o ∈ pre, ∃ d, o.dst = some d ∧ d < a0.tmps.size) (hk1000 : l.toArray.size ≤ 1000) {Q : Exit → Act → World → Prop} {listed : Array Bool} {a : Act} {w : World}
    (hI : Done P R X T J pre tys a0 w0 l.toArray.size listed a w) {i : Nat} (hr : i ∈ Region.ready .any l.toArray listed) (hi : i < pre.length) :
    wpOp P l.toArray Q i (Done P R X T J pre tys a0 w0 l.toArray.size (listed.setIfInBounds i true)) a w := by
  obtain ⟨hun, o, ho, hall⟩ := mem_ready.1 hr
  obtain ⟨hlen, _, hspec⟩ := absGo_spec pre [] tys (fun j => by simp) habs
  have hop : pre[i]? = some o := by rw [← hpre i hi]; simpa using ho
  obtain ⟨hg, hed, τ, hτ, hab⟩ := hspec i o (Nat.zero_le _) hop
  have hlt : i < l.toArray.size := (Array.getElem?_eq_some_iff.1 ho).1
  obtain ⟨k, hk, hJk⟩ := hI.count
  have hG : ∀ t σ, seen pre (tys.take i) env o t = some σ → σ.ok R X T w (a.tmps.getD t undef) := by
    intro t σ h
    unfold seen at h
    split at h
    · rename_i e he
      have hp := List.find?_some he
      simp only [Bool.and_eq_true, beq_iff_eq] at hp
      have hmem : e ∈ o.after := by simpa using List.mem_of_find?_eq_some he
      have hlti := hed e hmem hp.1
      have htk : tys[e.on]? = some σ := by rw [List.getElem?_take, if_pos hlti] at h; exact h
      cases hoe : pre[e.on]? with
      | none => rw [hoe] at hp; simp at hp
      | some oe =>
        rw [hoe] at hp
        exact hI.done e.on oe t σ hoe (hall e hmem hp.1) (by simpa using hp.2) htk
    · split at h
      · cases h
      · rename_i hno
        have hno' : ∀ o' ∈ pre, o'.dst ≠ some t := by
          simpa using hno
        have e1 := hI.other t hno'
        have : a.tmps.getD t undef = a0.tmps.getD t undef := by rw [Array.getD_eq_getD_getElem?, Array.getD_eq_getD_getElem?, e1]
        rw [this]
        exact Ty.ok_keep hX (henv t σ h) hI.grown
  obtain ⟨d, hd, hdlt⟩ := hfit o (List.mem_of_getElem? hop)
  have hl := left_set hlt hun
  unfold wpOp
  rw [ho]
  show if Region.wanted o (yielded l.toArray a.tmps) = true then _ else _
  rw [if_pos (by simp [Region.wanted, hg])]
  refine .inl (absOp_sound ty hJ1 hJ2 hJR hsig hG hJk (by omega) hab fun v w' hok hJ' hgw => ?_)
  rw [hd]
  refine ⟨by simpa using hI.size, hI.defers, by simpa [Act.put] using hI.frame, fun t ht => ?_, ⟨hgw.os.trans hI.grown.os, hgw.tape.trans hI.grown.tape, hgw.output.trans hI.grown.output, Nat.le_trans hI.grown.size hgw.size, fun b hb hne => (hgw.block b (Nat.lt_of_lt_of_le hb hI.grown.size) hne).trans (hI.grown.block b hb hne)⟩, ⟨k + 1, by omega, hJ'⟩, fun j o' d' σ hj hlj hd' hσ => ?_⟩
  · have hne : d ≠ t := fun e => ht o (List.mem_of_getElem? hop) (by rw [hd, e])
    simp only [Act.put]
    rw [Array.getElem?_setIfInBounds_ne hne]
    exact hI.other t ht
  · by_cases e : i = j
    · subst e
      rw [hop] at hj
      injection hj with hj
      subst hj
      rw [hd] at hd'
      injection hd' with hd'
      subst hd'
      rw [hτ] at hσ
      injection hσ with hσ
      subst hσ
      have hdl : d < a.tmps.size := by rw [← hI.frame]; exact hdlt
      simp only [Act.put]
      rw [Array.getD_eq_getD_getElem?, Array.getElem?_setIfInBounds_self_of_lt hdl]
      exact hok
    · have hne : d ≠ d' := fun e' => e (onceB_spec honce i j o o' d hop hj hd (by rw [hd', e']))
      rw [getD_set_ne false e] at hlj
      have h1 := hI.done j o' d' σ hj hlj hd' hσ
      simp only [Act.put]
      rw [Array.getD_eq_getD_getElem?, Array.getElem?_setIfInBounds_ne hne, ← Array.getD_eq_getD_getElem?]
      exact Ty.ok_keep hX h1 hgw

/-- The outcome of an operation list with its kinds. -/
theorem zip_mem {pre : List Oper} {tys : List Ty} {p : Oper × Ty} (h : p ∈ pre.zip tys) : ∃ i : Nat, pre[i]? = some p.1 ∧ tys[i]? = some p.2 := by
  obtain ⟨i, hi⟩ := List.getElem?_of_mem h
  rw [List.getElem?_zip_eq_some] at hi
  exact ⟨i, hi⟩
theorem zip_dst {pre : List Oper} {tys : List Ty} (hl : tys.length = pre.length) {t : Tmp} (h : ∀ p ∈ pre.zip tys, p.1.dst ≠ some t) : ∀ o ∈ pre, o.dst ≠ some t := by
  intro o ho
  obtain ⟨i, hi⟩ := List.getElem?_of_mem ho
  have hlt : i < pre.length := (List.getElem?_eq_some_iff.1 hi).1
  have : (o, tys[i]'(by omega)) ∈ pre.zip tys := by
    apply List.mem_of_getElem? (i := i)
    rw [List.getElem?_zip_eq_some]
    exact ⟨hi, List.getElem?_eq_getElem (by omega)⟩
  exact h _ this

theorem Done.end_ {J : Nat → World → Prop} {pre : List Oper} {tys : List Ty} {a0 : Act} {w0 : World} (habs : absGo tS tI T sig env pre pre [] = some tys)
    (hfit : ∀ o ∈ pre, ∃ d, o.dst = some d ∧ d < a0.tmps.size) {listed : Array Bool} {a : Act} {w : World} {n : Nat} (hI : Done P R X T J pre tys a0 w0 n listed a w)
    (hall : ∀ i, i < pre.length → listed.getD i false = true) {K : Act → Prop} (h : AllPuts R X T w (pre.zip tys) a0 K) : K a := by
  obtain ⟨hlen, _, hspec⟩ := absGo_spec pre [] tys (fun j => by simp) habs
  refine allPuts_elim _ a0 K h hI.defers hI.frame (fun t ht => hI.other t (zip_dst (by simpa using hlen) ht)) fun p hp => ?_
  obtain ⟨i, h1, h2⟩ := zip_mem hp
  obtain ⟨d, hd, hlt⟩ := hfit p.1 (List.mem_of_getElem? h1)
  refine ⟨d, hd, by rw [← hI.frame]; exact hlt, hI.done i p.1 d p.2 h1 (hall i (List.getElem?_eq_some_iff.1 h1).1) hd h2⟩

def fitB (n : Nat) (pre : List Oper) : Bool := pre.all fun o => match o.dst with | some d => decide (d < n) | none => false
theorem fitB_spec {n : Nat} {pre : List Oper} (h : fitB n pre = true) : ∀ o ∈ pre, ∃ d, o.dst = some d ∧ d < n := by
  intro o ho
  have := List.all_eq_true.1 h o ho
  split at this
  · rename_i d hd; exact ⟨d, hd, of_decide_eq_true this⟩
  · cases this

/-- In a list whose edges lead back, the least operation that is not listed is ready. -/
theorem ready_of_unlisted {l pre : List Oper} (hpre : ∀ i, i < pre.length → l[i]? = pre[i]?) (hedge : ∀ i o, pre[i]? = some o → ∀ e ∈ o.after, Region.binds .any e = true → e.on < i)
    {listed : Array Bool} (hs : listed.size = l.toArray.size) : ∀ i, i < pre.length → listed.getD i false = false → ∃ j, j < pre.length ∧ j ∈ Region.ready .any l.toArray listed := by
  intro i
  induction i using Nat.strongRecOn with
  | _ i ih =>
    intro hi hun
    have ho : pre[i]? = some pre[i] := List.getElem?_eq_getElem hi
    by_cases h : ∃ e ∈ pre[i].after, Region.binds .any e = true ∧ listed.getD e.on false = false
    · obtain ⟨e, he, hb, hu⟩ := h
      exact ih e.on (hedge i _ ho e he hb) (Nat.lt_trans (hedge i _ ho e he hb) hi) hu
    · refine ⟨i, hi, mem_ready.2 ⟨getD_in ?_ hun, pre[i], ?_, fun e he hb => ?_⟩⟩
      · rw [hs]
        have := hpre i hi
        rw [ho] at this
        simpa using (List.getElem?_eq_some_iff.1 this).1
      · simpa using (hpre i hi).trans ho
      · cases hx : listed.getD e.on false with
        | true => rfl
        | false => exact absurd ⟨e, he, hb, hx⟩ h

theorem wp_region_abs (ty : IntTypes P tS tI) (hX : ∀ k w w' v, X k w v → w.grownBy w' (some R) → X k w' v) {J : Nat → World → Prop}
    (hJ1 : ∀ k w, J k w → J (k + 1) w) (hJ2 : ∀ k w o, J k w → J (k + 1) (w.alloc o)) (hJR : ∀ k w, J k w → R < w.heap.size)
    (hsig : ∀ f ts τ vs k w, sig f ts = some τ → okArgs R X T w ts vs → J k w → k < 1000 → (∀ w, (callFunc f vs.toArray).run P w = .ok (.enter f vs.toArray) w) ∧
      Calls P f vs.toArray w fun e w' => ∃ v, e = .returned v ∧ τ.ok R X T w' v ∧ J (k + 1) w' ∧ w.grownBy w' (some R))
    (hm : P.follows .mixedOrders = true) {id : Nat} {l : List Oper} {tys : List Ty} {a : Act} {w : World} {Q : Exit → Act → World → Prop}
    (habs : absGo tS tI T sig env l l [] = some tys) (hB : (onceB l && fitB a.tmps.size l && decide (l.length ≤ 1000)) = true)
    (henv : ∀ t σ, env t = some σ → σ.ok R X T w.drew (a.tmps.getD t undef)) (hJ0 : J 0 w.drew)
    (h : ∀ w', w.drew.grownBy w' (some R) → J l.length w' → AllPuts R X T w' (l.zip tys) a (fun a' => Q .normal a' w')) : (Code.region id l.toArray true).wp P Q a w := by
  simp only [Bool.and_eq_true, decide_eq_true_eq] at hB
  obtain ⟨hB, hk1000⟩ := hB
  obtain ⟨hlen, _, hspec⟩ := absGo_spec l [] tys (fun j => by simp) habs
  have hedge : ∀ i o, l[i]? = some o → ∀ e ∈ o.after, Region.binds .any e = true → e.on < i := fun i o ho => (hspec i o (Nat.zero_le _) ho).2.1
  refine wp_region_any hm (wpAny_inv2 (Done P R X T J l tys a w.drew l.toArray.size) (fun listed => ∀ i, i < l.length → listed.getD i false = true) ?_ ?_ ?_ _ _ _ _ ?_ ?_)
  · intro i listed a' w' hr hI _
    obtain ⟨_, o, ho, _⟩ := mem_ready.1 hr
    exact Done.step ty hX hJ1 hJ2 hJR hsig (fun _ _ => rfl) henv habs hB.1 (fitB_spec hB.2) (by simpa using hk1000) hI hr (by simpa using (Array.getElem?_eq_some_iff.1 ho).1)
  · intro listed a' w' hI hD hr
    refine hD fun i hi => ?_
    cases hx : listed.getD i false with
    | true => rfl
    | false =>
      obtain ⟨j, _, hj⟩ := ready_of_unlisted (fun _ _ => rfl) hedge hI.size i hi hx
      rw [hr] at hj; cases hj
  · intro listed a' w' hI hD
    have hnone : ∀ i, i ∉ Region.ready .any l.toArray listed := fun i hi => by
      obtain ⟨hun, o, ho, _⟩ := mem_ready.1 hi
      have hlt : i < l.length := by simpa using (Array.getElem?_eq_some_iff.1 ho).1
      have h1 := hD i hlt
      rw [getD_both hun] at h1
      cases h1
    have hr : Region.ready .any l.toArray listed = [] := List.eq_nil_iff_forall_not_mem.2 hnone
    have h0 : left l.toArray.size listed = 0 := by
      unfold left
      rw [List.length_eq_zero_iff, List.filter_eq_nil_iff]
      intro i hi
      have hlt : i < l.length := by simpa using hi
      have h1 := hD i hlt
      have : listed.getD i true = true := by
        cases hx : listed.getD i true with
        | true => rfl
        | false => rw [getD_both hx] at h1; cases h1
      simp [this]
    rw [h0]
    obtain ⟨k, hk, hJk⟩ := hI.count
    rw [h0, Nat.add_zero] at hk
    subst hk
    exact ⟨hr, Done.end_ habs (fitB_spec hB.2) hI hD (h w' hI.grown (by simpa using hJk))⟩
  · unfold left
    rw [List.filter_eq_self.2 (fun i hi => by
      have : i < l.length := by simpa using hi
      simp [this])]
    simp
  · refine ⟨by simp, rfl, rfl, fun _ _ => rfl, World.grownBy.refl _ _, ⟨0, ?_, hJ0⟩, fun i o d τ _ hl => (by rw [getD_replicate_false] at hl; cases hl)⟩
    unfold left
    rw [List.filter_eq_self.2 (fun i hi => by
      have : i < l.length := by simpa using hi
      simp [this])]
    simp

/-- The same where the operations from the n-th on are a forced tail: it is left to be walked as ever. -/
theorem wp_region_abs_tail (ty : IntTypes P tS tI) (hX : ∀ k w w' v, X k w v → w.grownBy w' (some R) → X k w' v) {J : Nat → World → Prop}
    (hJ1 : ∀ k w, J k w → J (k + 1) w) (hJ2 : ∀ k w o, J k w → J (k + 1) (w.alloc o)) (hJR : ∀ k w, J k w → R < w.heap.size)
    (hsig : ∀ f ts τ vs k w, sig f ts = some τ → okArgs R X T w ts vs → J k w → k < 1000 → (∀ w, (callFunc f vs.toArray).run P w = .ok (.enter f vs.toArray) w) ∧
      Calls P f vs.toArray w fun e w' => ∃ v, e = .returned v ∧ τ.ok R X T w' v ∧ J (k + 1) w' ∧ w.grownBy w' (some R))
    (hm : P.follows .mixedOrders = true) {id : Nat} {l : List Oper} (n : Nat) {tys : List Ty} {a : Act} {w : World} {Q : Exit → Act → World → Prop}
    (habs : absGo tS tI T sig env (l.take n) (l.take n) [] = some tys) (hB : (onceB (l.take n) && fitB a.tmps.size (l.take n) && decide (l.length ≤ 1000) && decide (n < l.length) && Region.sinkB .any l.toArray n && Region.chainB .any l.toArray n &&
      Region.seqB .any l.toArray (l.length - n) n (Array.replicate n true ++ Array.replicate (l.length - n) false)) = true)
    (henv : ∀ t σ, env t = some σ → σ.ok R X T w.drew (a.tmps.getD t undef)) (hJ0 : J 0 w.drew)
    (h : ∀ w', w.drew.grownBy w' (some R) → J n w' → AllPuts R X T w' ((l.take n).zip tys) a (fun a' => wpList P l.toArray Q (l.drop n) a' w')) : (Code.region id l.toArray true).wp P Q a w := by
  simp only [Bool.and_eq_true, decide_eq_true_eq] at hB
  obtain ⟨⟨⟨⟨⟨⟨h1, h2⟩, hk1000⟩, h3⟩, hs⟩, hc⟩, hseq⟩ := hB
  have hplen : (l.take n).length = n := by simp; omega
  have hpre : ∀ i, i < (l.take n).length → l[i]? = (l.take n)[i]? := fun i hi => by rw [List.getElem?_take, if_pos (by omega)]
  obtain ⟨hlen, _, hspec⟩ := absGo_spec (l.take n) [] tys (fun j => by simp) habs
  have hedge : ∀ i o, (l.take n)[i]? = some o → ∀ e ∈ o.after, Region.binds .any e = true → e.on < i := fun i o ho => (hspec i o (Nat.zero_le _) ho).2.1
  have hn : n < l.toArray.size := by simpa using h3
  refine wp_region_any hm (wpAny_inv2 (fun listed a' w' => Done P R X T J (l.take n) tys a w.drew l.toArray.size listed a' w' ∧ HeadInv .any l.toArray n listed) (fun listed => ∀ i, i < n → listed.getD i false = true) ?_ ?_ ?_ _ _ _ _ ?_ ?_)
  · intro i listed a' w' hr hI hD
    have hex : ∃ j, j < n ∧ listed.getD j true = false := by
      refine Classical.byContradiction fun hno => hD fun j hj => ?_
      cases hx : listed.getD j false with
      | true => rfl
      | false => exact absurd ⟨j, hj, getD_in (by rw [hI.2.size]; omega) hx⟩ hno
    obtain ⟨j, hj, hju⟩ := hex
    have hin : i < n := by
      rcases Nat.lt_or_ge i n with hlt | hge
      · exact hlt
      · exact absurd hr (tail_waits hs hc hn hI.2 _ j rfl hj hju i hge)
    exact wpOp_mono (fun a'' w'' hh => ⟨hh, hI.2.set hr hin⟩) (Done.step ty hX hJ1 hJ2 hJR hsig hpre henv habs h1 (fitB_spec h2) (by simpa using hk1000) hI.1 hr (by omega))
  · intro listed a' w' hI hD hr
    refine hD fun i hi => ?_
    cases hx : listed.getD i false with
    | true => rfl
    | false =>
      obtain ⟨j, _, hj⟩ := ready_of_unlisted hpre hedge hI.1.size i (by omega) hx
      rw [hr] at hj; cases hj
  · intro listed a' w' hI hD
    have hlst : listed = Array.replicate n true ++ Array.replicate (l.length - n) false := by
      apply Array.ext_getElem?
      intro i
      have hsz : listed.size = l.length := by simpa using hI.1.size
      by_cases hi : i < n
      · have := hD i hi
        have hlt : i < listed.size := by omega
        rw [Array.getElem?_append_left (by simpa using hi)]
        simp [hi, hlt] at this ⊢
        exact this
      · by_cases hi2 : i < l.length
        · have := hI.2.tail i (by omega) (by simpa using hi2)
          have hlt : i < listed.size := by omega
          rw [Array.getElem?_append_right (by simp; omega)]
          have hlt2 : i - n < l.length - n := by omega
          simp [hlt, hlt2] at this ⊢
          exact this
        · rw [Array.getElem?_eq_none (by omega), Array.getElem?_eq_none (by simp; omega)]
    have hleft : left l.toArray.size listed = (l.drop n).length := by
      obtain ⟨k, hk, _⟩ := hI.1.count
      have key : ∀ m, n ≤ m → m ≤ l.length → left m listed = m - n := by
        intro m
        induction m with
        | zero => intro h0 _; simp [left]
        | succ m ih =>
          intro hm1 hm2
          have hsing : ∀ f : Nat → Bool, ([m].filter f).length = if f m then 1 else 0 := fun f => by
            by_cases hf : f m = true <;> simp [hf]
          unfold left at ih ⊢
          rw [List.range_succ, List.filter_append, List.length_append, hsing]
          by_cases e : n ≤ m
          · rw [ih e (by omega)]
            have h7 := hI.2.tail m e (by simp; omega)
            rw [h7]
            simp
            omega
          · have e2 : n = m + 1 := by omega
            have hf : ∀ q, q ≤ n → (List.range q).filter (fun i => !listed.getD i true) = [] := by
              intro q hq
              rw [List.filter_eq_nil_iff]
              intro i hi
              have hi' : i < n := by have := List.mem_range.1 hi; omega
              have h5 := hD i hi'
              cases hx : listed.getD i true with
              | true => simp
              | false => rw [getD_both hx] at h5; cases h5
            rw [hf m (by omega)]
            have h6 : listed.getD m true = true := by
              have h5 := hD m (by omega)
              cases hx : listed.getD m true with
              | true => rfl
              | false => rw [getD_both hx] at h5; cases h5
            rw [h6]
            simp
            omega
      have := key l.length (by omega) (Nat.le_refl _)
      simpa using this
    rw [hleft]
    obtain ⟨k, hk, hJk⟩ := hI.1.count
    have hkn : k = n := by rw [hleft] at hk; simp at hk; omega
    subst hkn
    refine wpAny_of_seq (l.drop k) k listed a' w' (fun j => by simp [List.getElem?_drop]) (by rw [hlst, List.length_drop]; exact hseq) ?_
    exact Done.end_ habs (fitB_spec h2) hI.1 (fun i hi => hD i (by omega)) (h w' hI.1.grown hJk)
  · unfold left
    rw [List.filter_eq_self.2 (fun i hi => by
      have : i < l.length := by simpa using hi
      simp [this])]
    simp
  · refine ⟨⟨by simp, rfl, rfl, fun _ _ => rfl, World.grownBy.refl _ _, ⟨0, ?_, hJ0⟩, fun i o d τ _ hl => (by rw [getD_replicate_false] at hl; cases hl)⟩, ⟨by simp, fun j oj _ hl => (by rw [getD_replicate_false] at hl; cases hl), fun t _ ht => getD_in (by simpa using ht) (getD_replicate_false _ _)⟩⟩
    unfold left
    rw [List.filter_eq_self.2 (fun i hi => by
      have : i < l.length := by simpa using hi
      simp [this])]
    simp

/-- The first k of n listed. -/
def firstK (n k : Nat) : Array Bool := Array.ofFn (n := n) fun i => decide (i.val < k)
theorem firstK_get {n k i : Nat} (hi : i < n) : (firstK n k)[i]? = some (decide (i < k)) := by simp [firstK, hi]
theorem firstK_set {n k : Nat} (hk : k < n) : (firstK n k).setIfInBounds k true = firstK n (k + 1) := by
  apply Array.ext_getElem?
  intro i
  by_cases e : k = i
  · subst e
    rw [Array.getElem?_setIfInBounds_self_of_lt (by simpa [firstK] using hk), firstK_get hk]
    simp
  · rw [Array.getElem?_setIfInBounds_ne e]
    by_cases hi : i < n
    · rw [firstK_get hi, firstK_get hi]
      congr 1
      have : (i < k) ↔ (i < k + 1) := by omega
      simp [this]
    · rw [Array.getElem?_eq_none (by simp [firstK]; omega), Array.getElem?_eq_none (by simp [firstK]; omega)]

/-- The same for a region that does not draw: the first n operations by their kinds, the others as ever. -/
theorem wp_region_abs_seq (ty : IntTypes P tS tI) (hX : ∀ k w w' v, X k w v → w.grownBy w' (some R) → X k w' v) {J : Nat → World → Prop}
    (hJ1 : ∀ k w, J k w → J (k + 1) w) (hJ2 : ∀ k w o, J k w → J (k + 1) (w.alloc o)) (hJR : ∀ k w, J k w → R < w.heap.size)
    (hsig : ∀ f ts τ vs k w, sig f ts = some τ → okArgs R X T w ts vs → J k w → k < 1000 → (∀ w, (callFunc f vs.toArray).run P w = .ok (.enter f vs.toArray) w) ∧
      Calls P f vs.toArray w fun e w' => ∃ v, e = .returned v ∧ τ.ok R X T w' v ∧ J (k + 1) w' ∧ w.grownBy w' (some R))
    {id : Nat} {l : List Oper} (n : Nat) {tys : List Ty} {a : Act} {w : World} {Q : Exit → Act → World → Prop}
    (habs : absGo tS tI T sig env (l.take n) (l.take n) [] = some tys) (hB : (onceB (l.take n) && fitB a.tmps.size (l.take n) && decide (l.length ≤ 1000) && decide (n ≤ l.length)) = true)
    (henv : ∀ t σ, env t = some σ → σ.ok R X T w (a.tmps.getD t undef)) (hJ0 : J 0 w)
    (h : ∀ w', w.grownBy w' (some R) → J n w' → AllPuts R X T w' ((l.take n).zip tys) a (fun a' => wpList P l.toArray Q (l.drop n) a' w')) : (Code.region id l.toArray false).wp P Q a w := by
  simp only [Bool.and_eq_true, decide_eq_true_eq] at hB
  obtain ⟨⟨⟨h1, h2⟩, hk1000⟩, hn⟩ := hB
  have hplen : (l.take n).length = n := by simp; omega
  have hpre : ∀ i, i < (l.take n).length → l[i]? = (l.take n)[i]? := fun i hi => by rw [List.getElem?_take, if_pos (by omega)]
  obtain ⟨hlen, _, hspec⟩ := absGo_spec (l.take n) [] tys (fun j => by simp) habs
  have hsz : l.toArray.size = l.length := by simp
  have key : ∀ d k a' w', n - k = d → k ≤ n → Done P R X T J (l.take n) tys a w l.toArray.size (firstK l.length k) a' w' → wpList P l.toArray Q (l.drop k) a' w' := by
    intro d
    induction d with
    | zero =>
      intro k a' w' hd hk hI
      have hkn : k = n := by omega
      subst hkn
      obtain ⟨k', hk', hJk⟩ := hI.count
      have hleft : left l.toArray.size (firstK l.length k) = l.length - k := by
        have key2 : ∀ m, m ≤ l.length → left m (firstK l.length k) = m - k := by
          intro m
          induction m with
          | zero => intro _; simp [left]
          | succ m ih =>
            intro hm
            have hsing : ∀ f : Nat → Bool, ([m].filter f).length = if f m then 1 else 0 := fun f => by
              by_cases hf : f m = true <;> simp [hf]
            have ih' := ih (by omega)
            unfold left at ih' ⊢
            rw [List.range_succ, List.filter_append, List.length_append, hsing, ih', Array.getD_eq_getD_getElem?, firstK_get (by omega)]
            by_cases e : m < k
            · simp [e]; omega
            · simp [e]; omega
        rw [hsz]
        exact key2 _ (Nat.le_refl _)
      have : k' = k := by rw [hleft, hsz] at hk'; omega
      subst this
      refine Done.end_ habs (fitB_spec h2) hI (fun i hi => ?_) (h w' hI.grown hJk)
      rw [Array.getD_eq_getD_getElem?, firstK_get (by omega)]
      simp
      omega
    | succ d ih =>
      intro k a' w' hd hk hI
      have hkn : k < n := by omega
      have hkl : k < l.length := by omega
      have hok : (l.take n)[k]? = some l[k] := by rw [List.getElem?_take, if_pos hkn]; exact List.getElem?_eq_getElem hkl
      have hr : k ∈ Region.ready .any l.toArray (firstK l.length k) := by
        refine mem_ready.2 ⟨?_, l[k], by simp [hkl], fun e he hb => ?_⟩
        · rw [Array.getD_eq_getD_getElem?, firstK_get hkl]; simp
        · have := (hspec k l[k] (Nat.zero_le _) hok).2.1 e he hb
          rw [Array.getD_eq_getD_getElem?, firstK_get (by omega)]
          simp
          omega
      have hst := Done.step ty hX hJ1 hJ2 hJR hsig hpre henv habs h1 (fitB_spec h2) (by simpa using hk1000) (Q := Q) hI hr (by omega)
      rw [firstK_set hkl] at hst
      have hst2 := wpOp_mono (fun a'' w'' hh => ih (k + 1) a'' w'' (by omega) (by omega) hh) hst
      rw [List.drop_eq_getElem_cons hkl]
      unfold wpOp at hst2
      have hlk : l.toArray[k]? = some l[k] := by simp [hkl]
      rw [hlk] at hst2
      exact hst2
  refine wp_region_list ?_
  have := key n 0 a w (by omega) (Nat.zero_le _) ⟨by simp [firstK], rfl, rfl, fun _ _ => rfl, World.grownBy.refl _ _, ⟨0, ?_, hJ0⟩, fun i o d τ _ hl => ?_⟩
  · simpa using this
  · unfold left
    rw [List.filter_eq_self.2 (fun i hi => by
      have hlt : i < l.length := by simpa using hi
      rw [Array.getD_eq_getD_getElem?, firstK_get hlt]
      simp)]
    simp
  · exfalso
    by_cases hi : i < l.length
    · rw [Array.getD_eq_getD_getElem?, firstK_get hi] at hl
      simp at hl
    · rw [Array.getD_eq_getD_getElem?, Array.getElem?_eq_none (by simp [firstK]; omega)] at hl
      cases hl
end
end Go.Proofs.Ytfkccdmjlopleaa
