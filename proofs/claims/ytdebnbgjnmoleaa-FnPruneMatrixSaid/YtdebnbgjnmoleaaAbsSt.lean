/- The law of a region that draws its order, over the slots' kinds, where one store into memory of the caller floats among the last operations. -/
import Derived.Test.YtdebnbgjnmoleaaAbsReg
namespace Go.Proofs.Ytdebnbgjnmoleaa
open Go.RowKit

section
variable {P : Program} {R : Nat} {X : Nat → World → Value → Prop} {T : Nat → List Ty}
variable {tS tI : TypeId} {sig : FuncId → List Ty → Option Ty} {env : Tmp → Option Ty}

theorem left_all {n m : Nat} {listed : Array Bool} (h1 : ∀ i, i < n → listed.getD i false = true) (h2 : ∀ i, n ≤ i → i < m → listed.getD i true = false) (_ : n ≤ m) : left m listed = m - n := by
  have key : ∀ q, q ≤ m → left q listed = q - n := by
    intro q
    induction q with
    | zero => intro _; simp [left]
    | succ q ih =>
      intro hq
      have hsing : ∀ f : Nat → Bool, ([q].filter f).length = if f q then 1 else 0 := fun f => by
        by_cases hf : f q = true <;> simp [hf]
      have ih' := ih (by omega)
      unfold left at ih' ⊢
      rw [List.range_succ, List.filter_append, List.length_append, hsing, ih']
      by_cases e : n ≤ q
      · rw [h2 q e (by omega)]; simp; omega
      · have h3 := h1 q (by omega)
        have h4 : listed.getD q true = true := by
          cases hx : listed.getD q true with
          | true => rfl
          | false => rw [getD_both hx] at h3; cases h3
        rw [h4]; simp; omega
  exact key m (Nat.le_refl _)

theorem wp_region_abs_store (ty : IntTypes P tS tI) (hX : ∀ k w w' v, X k w v → w.grownBy w' (some R) → X k w' v) {J : Nat → World → Prop}
    (hJ1 : ∀ k w, J k w → J (k + 1) w) (hJ2 : ∀ k w o, J k w → J (k + 1) (w.alloc o)) (hJR : ∀ k w, J k w → R < w.heap.size)
    (hsig : ∀ f ts τ vs k w, sig f ts = some τ → okArgs R X T w ts vs → J k w → k < 1000 → (∀ w, (callFunc f vs.toArray).run P w = .ok (.enter f vs.toArray) w) ∧
      Calls P f vs.toArray w fun e w' => ∃ v, e = .returned v ∧ τ.ok R X T w' v ∧ J (k + 1) w' ∧ w.grownBy w' (some R))
    (hm : P.follows .mixedOrders = true) {id : Nat} {l : List Oper} (n : Nat) {tys : List Ty} {a : Act} {w : World} {Q : Exit → Act → World → Prop}
    (habs : absGo tS tI T sig env (l.take n) (l.take n) [] = some tys) (hB : (onceB (l.take n) && fitB a.tmps.size (l.take n) && decide (l.length ≤ 1000) && decide (n + 1 < l.length) && Region.sinkB .any l.toArray (n + 1) && Region.chainB .any l.toArray (n + 1) &&
      Region.seqB .any l.toArray (l.length - (n + 1)) (n + 1) (Array.replicate (n + 1) true ++ Array.replicate (l.length - (n + 1)) false)) = true)
    (henv : ∀ t σ, env t = some σ → σ.ok R X T w.drew (a.tmps.getD t undef)) (hJ0 : J 0 w.drew)
    {st : Oper} (hst : l[n]? = some st) (hsd : st.dst = none) (hsg : st.guard = none) (hsb : (st.after.toList.all fun e => !Region.binds .any e || decide (e.on < n)) = true)
    (ix x : Nat) {ox : Oper} {τx : Ty} (hox : (l.take n)[ix]? = some ox) (hxd : ox.dst = some x) (hτx : tys[ix]? = some τx) (hxe : (st.after.toList.any fun e => Region.binds .any e && decide (e.on = ix)) = true)
    (G : World → World) (g : Nat) (hgR : g ≤ R) (hXg : ∀ k w w' v, X k w v → w.grownBy w' (some g) → X k w' v)
    (hG1 : ∀ w', w.drew.grownBy w' (some R) → w'.grownBy (G w') (some g) ∧ (G w.drew).grownBy (G w') (some R))
    (hGJ : ∀ k w', w.drew.grownBy w' (some R) → J k w' → J (k + 1) (G w'))
    (hGx : ∀ (a' : Act) (w' : World), w.drew.grownBy w' (some R) → (∀ t, (∀ o ∈ l.take n, o.dst ≠ some t) → a.tmps[t]? = a'.tmps[t]?) → τx.ok R X T w' (a'.tmps.getD x undef) → (execOp a'.eval st).run P w' = .ok .skip (G w'))
    (h : ∀ w', (G w.drew).grownBy w' (some R) → J (n + 1) w' → AllPuts R X T w' ((l.take n).zip tys) a (fun a' => wpList P l.toArray Q (l.drop (n + 1)) a' w')) : (Code.region id l.toArray true).wp P Q a w := by
  simp only [Bool.and_eq_true, decide_eq_true_eq] at hB
  obtain ⟨⟨⟨⟨⟨⟨h1, h2⟩, hk1000⟩, h3⟩, hs⟩, hc⟩, hseq⟩ := hB
  have hplen : (l.take n).length = n := by simp; omega
  have hpre : ∀ i, i < (l.take n).length → l[i]? = (l.take n)[i]? := fun i hi => by rw [List.getElem?_take, if_pos (by omega)]
  obtain ⟨hlen, _, hspec⟩ := absGo_spec (l.take n) [] tys (fun j => by simp) habs
  have hedge : ∀ i o, (l.take n)[i]? = some o → ∀ e ∈ o.after, Region.binds .any e = true → e.on < i := fun i o ho => (hspec i o (Nat.zero_le _) ho).2.1
  have hn : n + 1 < l.toArray.size := by simpa using h3
  have hg0 : ∀ b, some g = some b → b ≤ R := fun b e => by cases e; exact hgR
  have hdr := hG1 w.drew (World.grownBy.refl _ _)
  have henv2 : ∀ t σ, env t = some σ → σ.ok R X T (G w.drew) (a.tmps.getD t undef) := fun t σ ht => Ty.ok_row hg0 hXg (henv t σ ht) hdr.1
  have hstl : l.toArray[n]? = some st := by simpa using hst
  refine wp_region_any hm (wpAny_inv2 (fun listed a' w' => (∃ wb, (listed.getD n false = false → wb = w.drew) ∧ (listed.getD n false = true → wb = G w.drew) ∧ Done P R X T J (l.take n) tys a wb l.toArray.size listed a' w') ∧ HeadInv .any l.toArray (n + 1) listed) (fun listed => ∀ i, i < n + 1 → listed.getD i false = true) ?_ ?_ ?_ _ _ _ _ ?_ ?_)
  · rintro i listed a' w' hr ⟨⟨wb, hb0, hb1, hI⟩, hH⟩ hD
    have hex : ∃ j, j < n + 1 ∧ listed.getD j true = false := by
      refine Classical.byContradiction fun hno => hD fun j hj => ?_
      cases hx : listed.getD j false with
      | true => rfl
      | false => exact absurd ⟨j, hj, getD_in (by rw [hH.size]; omega) hx⟩ hno
    obtain ⟨j, hj, hju⟩ := hex
    have hin : i < n + 1 := by
      rcases Nat.lt_or_ge i (n + 1) with hlt | hge
      · exact hlt
      · exact absurd hr (tail_waits hs hc hn hH _ j rfl hj hju i hge)
    by_cases hi : i = n
    · -- the store
      subst hi
      obtain ⟨hun, o, ho, hall⟩ := mem_ready.1 hr
      rw [hstl] at ho
      injection ho with ho
      subst ho
      obtain rfl := hb0 (getD_both hun)
      obtain ⟨e, he, hbe⟩ := List.any_eq_true.1 hxe
      simp only [Bool.and_eq_true, decide_eq_true_eq] at hbe
      have hlx : listed.getD ix false = true := by rw [← hbe.2]; exact hall e (by simpa using he) hbe.1
      have hrun := hGx a' w' hI.grown hI.other (hI.done ix ox x τx hox hlx hxd hτx)
      have hlt : i < l.toArray.size := by omega
      have hl := left_set hlt hun
      obtain ⟨k, hk, hJk⟩ := hI.count
      have hg1 := hG1 w' hI.grown
      unfold wpOp
      rw [hstl]
      show if Region.wanted st (yielded l.toArray a'.tmps) = true then _ else _
      rw [if_pos (by simp [Region.wanted, hsg])]
      refine .inl ?_
      unfold Oper.wp
      rw [hrun]
      show _ ∧ _
      rw [hsd]
      refine ⟨⟨G w.drew, fun h => ?_, fun _ => rfl, ⟨by simpa using hI.size, hI.defers, hI.frame, hI.other, hg1.2, ⟨k + 1, by omega, hGJ k w' hI.grown hJk⟩, fun j o' d' σ hj hlj hd' hσ => ?_⟩⟩, hH.set hr hin⟩
      · rw [Array.getD_eq_getD_getElem?, Array.getElem?_setIfInBounds_self_of_lt (by rw [hH.size]; omega)] at h
        cases h
      · have hjn : j < i := by rw [← hplen]; exact (List.getElem?_eq_some_iff.1 hj).1
        rw [getD_set_ne false (by omega)] at hlj
        exact Ty.ok_row hg0 hXg (hI.done j o' d' σ hj hlj hd' hσ) hg1.1
    · have hin' : i < n := by omega
      have hset : (listed.setIfInBounds i true).getD n false = listed.getD n false := getD_set_ne false hi
      have hstep : wpOp P l.toArray Q i (Done P R X T J (l.take n) tys a wb l.toArray.size (listed.setIfInBounds i true)) a' w' := by
        cases hx : listed.getD n false with
        | false =>
          obtain rfl := hb0 hx
          exact Done.step ty hX hJ1 hJ2 hJR hsig hpre henv habs h1 (fitB_spec h2) (by simpa using hk1000) hI hr (by omega)
        | true =>
          obtain rfl := hb1 hx
          exact Done.step ty hX hJ1 hJ2 hJR hsig hpre henv2 habs h1 (fitB_spec h2) (by simpa using hk1000) hI hr (by omega)
      exact wpOp_mono (fun a'' w'' hh => ⟨⟨wb, fun e => hb0 (by rw [← hset]; exact e), fun e => hb1 (by rw [← hset]; exact e), hh⟩, hH.set hr hin⟩) hstep
  · rintro listed a' w' ⟨⟨wb, hb0, hb1, hI⟩, hH⟩ hD hr
    have hpall : ∀ i, i < n → listed.getD i false = true := fun i hi => by
      cases hx : listed.getD i false with
      | true => rfl
      | false =>
        obtain ⟨j, _, hj⟩ := ready_of_unlisted hpre hedge hI.size i (by omega) hx
        rw [hr] at hj; cases hj
    refine hD fun i hi => ?_
    by_cases e : i = n
    · subst e
      cases hx : listed.getD i false with
      | true => rfl
      | false =>
        exfalso
        have hmem : i ∈ Region.ready .any l.toArray listed := mem_ready.2 ⟨getD_in (by rw [hH.size]; omega) hx, st, hstl, fun e he hb => by
          have h7 := List.all_eq_true.1 hsb e (by simpa using he)
          rw [hb] at h7
          simp at h7
          exact hpall _ h7⟩
        rw [hr] at hmem; cases hmem
    · exact hpall i (by omega)
  · rintro listed a' w' ⟨⟨wb, hb0, hb1, hI⟩, hH⟩ hD
    obtain rfl := hb1 (hD n (by omega))
    have hlst : listed = Array.replicate (n + 1) true ++ Array.replicate (l.length - (n + 1)) false := by
      apply Array.ext_getElem?
      intro i
      have hsz : listed.size = l.length := by simpa using hI.size
      by_cases hi : i < n + 1
      · have := hD i hi
        have hlt : i < listed.size := by omega
        rw [Array.getElem?_append_left (by simpa using hi)]
        simp [hi, hlt] at this ⊢
        exact this
      · by_cases hi2 : i < l.length
        · have := hH.tail i (by omega) (by simpa using hi2)
          have hlt : i < listed.size := by omega
          rw [Array.getElem?_append_right (by simp; omega)]
          have hlt2 : i - (n + 1) < l.length - (n + 1) := by omega
          simp [hlt, hlt2] at this ⊢
          exact this
        · rw [Array.getElem?_eq_none (by omega), Array.getElem?_eq_none (by simp; omega)]
    have hleft : left l.toArray.size listed = (l.drop (n + 1)).length := by
      rw [left_all hD (fun i h5 h6 => hH.tail i h5 h6) (by omega)]
      simp
    rw [hleft]
    obtain ⟨k, hk, hJk⟩ := hI.count
    have hkn : k = n + 1 := by rw [hleft] at hk; simp at hk; omega
    subst hkn
    refine wpAny_of_seq (l.drop (n + 1)) (n + 1) listed a' w' (fun j => by simp [List.getElem?_drop]) (by rw [hlst, List.length_drop]; exact hseq) ?_
    exact Done.end_ habs (fitB_spec h2) hI (fun i hi => hD i (by omega)) (h w' hI.grown hJk)
  · unfold left
    rw [List.filter_eq_self.2 (fun i hi => by
      have : i < l.length := by simpa using hi
      simp [this])]
    simp
  · refine ⟨⟨w.drew, fun _ => rfl, fun h => (by rw [getD_replicate_false] at h; cases h), ⟨by simp, rfl, rfl, fun _ _ => rfl, World.grownBy.refl _ _, ⟨0, ?_, hJ0⟩, fun i o d τ _ hl => (by rw [getD_replicate_false] at hl; cases hl)⟩⟩, ⟨by simp, fun j oj _ hl => (by rw [getD_replicate_false] at hl; cases hl), fun t _ ht => getD_in (by simpa using ht) (getD_replicate_false _ _)⟩⟩
    unfold left
    rw [List.filter_eq_self.2 (fun i hi => by
      have : i < l.length := by simpa using hi
      simp [this])]
    simp
end
end Go.Proofs.Ytdebnbgjnmoleaa
