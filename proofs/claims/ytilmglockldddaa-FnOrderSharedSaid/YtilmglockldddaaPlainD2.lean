/- Plain laws of ordered rows. No program in sight. -/
import Derived.Test.YtilmglockldddaaPlainM
import Derived.Test.YtilmglockldddaaPlainD
namespace Go.Proofs.Ytilmglockldddaa

def oix (os : List Int) (k : Nat) : Nat := (os.getD k 0).toNat
def orderF (c : Nat) (zs os : List Int) (a b : Nat) : Int := zs.getD (oix os a * c + b) 0
def orderZ (r c : Nat) (zs os : List Int) : List Int := tab r c (orderF c zs os)
def orderTo (r c : Nat) (zs os : List Int) (k : Nat) : List Int := tab r c fun a b => if a < k then orderF c zs os a b else 0
def orderApp (c : Nat) (zs os : List Int) (n : Nat) : List Int := (List.range n).map fun p => orderF c zs os (p / c) (p % c)
theorem OkO.ix {os : List Int} (h : OkO os) {k : Nat} (hk : k < os.length) : os.getD k 0 = (oix os k : Int) ∧ oix os k < os.length := by
  have := (h.2 k hk).1
  unfold oix
  omega
theorem orderZ_len (r c : Nat) (zs os : List Int) : (orderZ r c zs os).length = r * c := tab_len _ _ _
theorem orderTo_len (r c : Nat) (zs os : List Int) (k : Nat) : (orderTo r c zs os k).length = r * c := tab_len _ _ _
theorem orderTo_zero (r c : Nat) (zs os : List Int) : orderTo r c zs os 0 = List.replicate (r * c) 0 := by
  symm
  refine eq_tab _ (by simp) fun a b ha hb => ?_
  rw [if_neg (by omega)]
  simp [List.getD_eq_getElem?_getD, List.getElem?_replicate]; split <;> simp
theorem orderTo_full (r c : Nat) (zs os : List Int) : orderTo r c zs os r = orderZ r c zs os := tab_congr fun _ _ ha _ => if_pos ha
theorem row_getD (zs : List Int) (L c b : Nat) (hb : b < c) : ((zs.drop L).take c).getD b 0 = zs.getD (L + b) 0 := by
  simp only [List.getD_eq_getElem?_getD]
  rw [List.getElem?_take_of_lt hb, List.getElem?_drop]
theorem orderTo_succ (r c : Nat) (zs os : List Int) (k : Nat) (hk : k < r) (hl : zs.length = r * c) (ho : oix os k < r) : splice (orderTo r c zs os k) (k * c) ((zs.drop (oix os k * c)).take c) = orderTo r c zs os (k + 1) := by
  have h1 : oix os k * c + c ≤ r * c := by have : (oix os k + 1) * c ≤ r * c := Nat.mul_le_mul_right _ (by omega); rw [Nat.add_mul] at this; omega
  have h2 : k * c + c ≤ r * c := by have : (k + 1) * c ≤ r * c := Nat.mul_le_mul_right _ (by omega); rw [Nat.add_mul] at this; omega
  have hcl : ((zs.drop (oix os k * c)).take c).length = c := by simp; omega
  have hfit : k * c + ((zs.drop (oix os k * c)).take c).length ≤ (orderTo r c zs os k).length := by rw [hcl, orderTo_len]; exact h2
  refine eq_tab _ (by rw [length_splice _ _ _ hfit, orderTo_len]) fun a b ha hb => ?_
  rw [splice_get _ _ _ hfit, hcl]
  have hin : (k * c ≤ a * c + b ∧ a * c + b < k * c + c) ↔ a = k := by
    constructor
    · rintro ⟨h1, h2⟩
      rcases Nat.lt_trichotomy a k with h | h | h
      · have : (a + 1) * c ≤ k * c := Nat.mul_le_mul_right _ (by omega)
        rw [Nat.add_mul a 1] at this; omega
      · exact h
      · have : (k + 1) * c ≤ a * c := Nat.mul_le_mul_right _ (by omega)
        rw [Nat.add_mul k 1] at this; omega
    · rintro rfl; omega
  by_cases e : a = k
  · rw [if_pos (hin.2 e), if_pos (by omega)]
    subst e
    rw [Nat.add_sub_cancel_left, row_getD _ _ _ _ hb]
    rfl
  · rw [if_neg (fun h => e (hin.1 h)), orderTo, tab_at _ _ _ _ _ ha hb]
    by_cases h1 : a < k
    · rw [if_pos h1, if_pos (by omega)]
    · rw [if_neg h1, if_neg (by omega)]
theorem orderApp_succ (r c : Nat) (zs os : List Int) (k : Nat) (hc : 1 ≤ c) (hl : zs.length = r * c) (ho : oix os k < r) : orderApp c zs os (k * c) ++ (zs.drop (oix os k * c)).take c = orderApp c zs os (k * c + c) := by
  have h1 : oix os k * c + c ≤ r * c := by have : (oix os k + 1) * c ≤ r * c := Nat.mul_le_mul_right _ (by omega); rw [Nat.add_mul] at this; omega
  have hcl : ((zs.drop (oix os k * c)).take c).length = c := by simp; omega
  apply ext_getM
  · simp [orderApp]; omega
  · intro p hp
    have hp' : p < k * c + c := by simp [orderApp] at hp; omega
    simp only [List.getD_eq_getElem?_getD]
    by_cases e : p < k * c
    · rw [List.getElem?_append_left (by simp [orderApp]; exact e)]
      simp [orderApp, e, hp']
    · rw [List.getElem?_append_right (by simp [orderApp]; omega)]
      have e2 : (orderApp c zs os (k * c)).length = k * c := by simp [orderApp]
      rw [e2]
      have hb : p - k * c < c := by omega
      have := row_getD zs (oix os k * c) c (p - k * c) hb
      simp only [List.getD_eq_getElem?_getD] at this
      rw [this]
      have d1 : p / c = k := by rw [show p = k * c + (p - k * c) by omega]; exact ix_div hb
      have d2 : p % c = p - k * c := by conv => lhs; rw [show p = k * c + (p - k * c) by omega]
                                        exact ix_mod hb
      simp [orderApp, hp', orderF, d1, d2]
theorem orderApp_full (r c : Nat) (zs os : List Int) : orderApp c zs os (r * c) = orderZ r c zs os := rfl
theorem orderApp_len (c : Nat) (zs os : List Int) (n : Nat) : (orderApp c zs os n).length = n := by simp [orderApp]
/-- The order that leads back. -/
def backTo (os : List Int) : Nat → List Int
  | 0 => List.replicate os.length 0
  | k + 1 => (backTo os k).set (oix os k) (k : Int)
theorem backTo_len (os : List Int) (k : Nat) : (backTo os k).length = os.length := by
  induction k with
  | zero => simp [backTo]
  | succ k ih => simp [backTo, ih]
theorem getO_set (l : List Int) (i : Nat) (v : Int) (p : Nat) : (l.set i v).getD p 0 = if i = p ∧ p < l.length then v else l.getD p 0 := by
  simp only [List.getD_eq_getElem?_getD, List.getElem?_set]
  by_cases e : i = p
  · subst e
    by_cases h : i < l.length
    · simp [h]
    · simp [h]
  · simp [e]
theorem oix_inj {os : List Int} (h : OkO os) {i j : Nat} (hi : i < os.length) (hj : j < os.length) (e : oix os i = oix os j) : i = j := by
  have a := (h.ix hi).1
  have b := (h.ix hj).1
  rcases Nat.lt_trichotomy i j with h1 | h1 | h1
  · exact absurd (by rw [a, b, e]) ((h.2 j hj).2 i h1)
  · exact h1
  · exact absurd (by rw [a, b, e]) ((h.2 i hi).2 j h1)
theorem backTo_at {os : List Int} (h : OkO os) (k : Nat) (hk : k ≤ os.length) (j : Nat) (hj : j < k) : (backTo os k).getD (oix os j) 0 = (j : Int) := by
  induction k with
  | zero => omega
  | succ k ih =>
    unfold backTo
    rw [getO_set, backTo_len]
    by_cases e : j = k
    · subst e
      rw [if_pos ⟨rfl, (h.ix (by omega)).2⟩]
    · rw [if_neg (fun h2 => e (oix_inj h (by omega) (by omega) h2.1.symm))]
      exact ih (by omega) (by omega)
/-- Every place is reached. -/
theorem oix_surj {os : List Int} (h : OkO os) (p : Nat) (hp : p < os.length) : ∃ j, j < os.length ∧ oix os j = p := by
  have h1 := h.1
  have hr := fun k hk => (h.ix (k := k) hk).2
  have hi := fun i j hi hj => oix_inj h (i := i) (j := j) hi hj
  generalize hn : os.length = n at *
  apply Classical.byContradiction
  intro hno
  have hne : ∀ j, j < n → oix os j ≠ p := fun j hj e => hno ⟨j, hj, e⟩
  have key : ∀ a b : Nat, a < n → b < n → a ≠ b → oix os a ≠ oix os b := fun a b ha hb hab e => hab (hi a b ha hb e)
  obtain ⟨h1a, h1b⟩ := h1
  have hcases : n = 1 ∨ n = 2 ∨ n = 3 ∨ n = 4 ∨ n = 5 := by omega
  rcases hcases with rfl | rfl | rfl | rfl | rfl
  · have := hr 0 (by omega); have := hne 0 (by omega); omega
  · have := hr 0 (by omega); have := hne 0 (by omega); have := hr 1 (by omega); have := hne 1 (by omega)
    have := key 0 1 (by omega) (by omega) (by omega); omega
  · have := hr 0 (by omega); have := hne 0 (by omega); have := hr 1 (by omega); have := hne 1 (by omega); have := hr 2 (by omega); have := hne 2 (by omega)
    have := key 0 1 (by omega) (by omega) (by omega); have := key 0 2 (by omega) (by omega) (by omega); have := key 1 2 (by omega) (by omega) (by omega); omega
  · have := hr 0 (by omega); have := hne 0 (by omega); have := hr 1 (by omega); have := hne 1 (by omega); have := hr 2 (by omega); have := hne 2 (by omega); have := hr 3 (by omega); have := hne 3 (by omega)
    have := key 0 1 (by omega) (by omega) (by omega); have := key 0 2 (by omega) (by omega) (by omega); have := key 1 2 (by omega) (by omega) (by omega); have := key 0 3 (by omega) (by omega) (by omega); have := key 1 3 (by omega) (by omega) (by omega); have := key 2 3 (by omega) (by omega) (by omega); omega
  · have := hr 0 (by omega); have := hne 0 (by omega); have := hr 1 (by omega); have := hne 1 (by omega); have := hr 2 (by omega); have := hne 2 (by omega); have := hr 3 (by omega); have := hne 3 (by omega); have := hr 4 (by omega); have := hne 4 (by omega)
    have := key 0 1 (by omega) (by omega) (by omega); have := key 0 2 (by omega) (by omega) (by omega); have := key 1 2 (by omega) (by omega) (by omega); have := key 0 3 (by omega) (by omega) (by omega); have := key 1 3 (by omega) (by omega) (by omega); have := key 2 3 (by omega) (by omega) (by omega)
    have := key 0 4 (by omega) (by omega) (by omega); have := key 1 4 (by omega) (by omega) (by omega); have := key 2 4 (by omega) (by omega) (by omega); have := key 3 4 (by omega) (by omega) (by omega); omega
theorem back_ix {os : List Int} (h : OkO os) (p : Nat) (hp : p < os.length) : ∃ j, j < os.length ∧ oix os j = p ∧ (backTo os os.length).getD p 0 = (j : Int) ∧ oix (backTo os os.length) p = j := by
  obtain ⟨j, hj, e⟩ := oix_surj h p hp
  have h2 := backTo_at h os.length (Nat.le_refl _) j hj
  rw [e] at h2
  exact ⟨j, hj, e, h2, by unfold oix; rw [h2]; simp⟩
theorem back_ok {os : List Int} (h : OkO os) : OkO (backTo os os.length) := by
  refine ⟨by rw [backTo_len]; exact h.1, fun p hp => ?_⟩
  rw [backTo_len] at hp ⊢
  obtain ⟨j, hj, e, h2, _⟩ := back_ix h p hp
  refine ⟨by rw [h2]; omega, fun i hi => ?_⟩
  obtain ⟨j', hj', e', h2', _⟩ := back_ix h i (by omega)
  rw [h2, h2']
  intro he
  have : j' = j := by omega
  subst this
  omega
theorem order_back {r c : Nat} {zs os : List Int} (h : OkO os) (ho : os.length = r) (hl : zs.length = r * c) : orderZ r c (orderZ r c zs os) (backTo os os.length) = zs := by
  symm
  refine eq_tab _ hl fun a b ha hb => ?_
  obtain ⟨j, hj, e, _, e2⟩ := back_ix h a (by omega)
  unfold orderF
  rw [e2, orderZ, tab_at _ _ _ _ _ (by omega) hb]
  unfold orderF
  rw [e]
end Go.Proofs.Ytilmglockldddaa
