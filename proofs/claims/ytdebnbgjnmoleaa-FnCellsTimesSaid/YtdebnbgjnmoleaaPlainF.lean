/- Plain laws of cells. No program in sight. -/
import Derived.WalkKit
namespace Go.Proofs.Ytdebnbgjnmoleaa

abbrev Tri : Type := Int × Int × Int
def t0 : Tri := (0, 0, 0)
/-- The cells among the first k values. -/
def cellsTo (c : Nat) (zs : List Int) : Nat → List Tri
  | 0 => []
  | k + 1 => cellsTo c zs k ++ (if zs.getD k 0 = 0 then [] else [(((k / c : Nat) : Int), ((k % c : Nat) : Int), zs.getD k 0)])
theorem cellsTo_len (c : Nat) (zs : List Int) (k : Nat) : (cellsTo c zs k).length ≤ k := by
  induction k with
  | zero => simp [cellsTo]
  | succ k ih => unfold cellsTo; rw [List.length_append]; split <;> simp <;> omega
def plc (cols : Int) (t : Tri) : Int := t.1 * cols + t.2.1
def lastC (cols : Int) (ts : List Tri) : Nat → Int
  | 0 => -1
  | k + 1 => plc cols (ts.getD k t0)
def okC1 (rows cols last : Int) (t : Tri) : Prop := (0 ≤ t.1 ∧ t.1 < rows) ∧ (0 ≤ t.2.1 ∧ t.2.1 < cols) ∧ (0 ≤ t.2.2 ∧ t.2.2 ≤ 4095) ∧ t.2.2 ≠ 0 ∧ last < plc cols t
def okCto (rows cols : Int) (ts : List Tri) (k : Nat) : Prop := ∀ j, j < k → okC1 rows cols (lastC cols ts j) (ts.getD j t0)
def OkC (rows cols : Int) (ts : List Tri) : Prop := (1 ≤ rows ∧ rows ≤ 5) ∧ (1 ≤ cols ∧ cols ≤ 5) ∧ okCto rows cols ts ts.length
theorem okCto_zero (rows cols : Int) (ts : List Tri) : okCto rows cols ts 0 := fun _ h => absurd h (by omega)
theorem okCto_succ {rows cols : Int} {ts : List Tri} {k : Nat} (h : okCto rows cols ts k) (h1 : okC1 rows cols (lastC cols ts k) (ts.getD k t0)) : okCto rows cols ts (k + 1) := fun j hj => by
  by_cases e : j = k
  · subst e; exact h1
  · exact h j (by omega)
theorem plc_bound {rows cols last : Int} {t : Tri} (h : okC1 rows cols last t) (h2 : cols ≤ 5) : 0 ≤ plc cols t ∧ plc cols t < rows * cols := by
  obtain ⟨⟨a, b⟩, ⟨c, d⟩, _⟩ := h
  unfold plc
  have e1 : 0 ≤ t.1 * cols := Int.mul_nonneg a (by omega)
  have e2 : (t.1 + 1) * cols ≤ rows * cols := Int.mul_le_mul_of_nonneg_right (by omega) (by omega)
  rw [Int.add_mul] at e2
  omega
/-- The values that the first k cells leave in n zeros. -/
def putTo (n : Nat) (cols : Int) (ts : List Tri) : Nat → List Int
  | 0 => List.replicate n 0
  | k + 1 => (putTo n cols ts k).set (plc cols (ts.getD k t0)).toNat (ts.getD k t0).2.2
theorem putTo_len (n : Nat) (cols : Int) (ts : List Tri) (k : Nat) : (putTo n cols ts k).length = n := by
  induction k with
  | zero => simp [putTo]
  | succ k ih => simp [putTo, ih]
theorem getD_set (l : List Int) (i : Nat) (v : Int) (p : Nat) : (l.set i v).getD p 0 = if i = p ∧ p < l.length then v else l.getD p 0 := by
  simp only [List.getD_eq_getElem?_getD, List.getElem?_set]
  by_cases e : i = p
  · subst e
    by_cases h : i < l.length
    · simp [h]
    · simp [h]
  · simp [e]
theorem putTo_ok (n : Nat) (rows cols : Int) (ts : List Tri) (h : okCto rows cols ts ts.length) (k : Nat) (hk : k ≤ ts.length) : ∀ p, 0 ≤ (putTo n cols ts k).getD p 0 ∧ (putTo n cols ts k).getD p 0 ≤ 4095 := by
  induction k with
  | zero => intro p; simp [putTo, List.getD_eq_getElem?_getD, List.getElem?_replicate]; split <;> simp
  | succ k ih =>
    intro p
    unfold putTo
    rw [getD_set]
    split
    · exact (h k (by omega)).2.2.1
    · exact ih (by omega) p
theorem putTo_app (n : Nat) (cols : Int) (ts us : List Tri) (k : Nat) (hk : k ≤ ts.length) : putTo n cols (ts ++ us) k = putTo n cols ts k := by
  induction k with
  | zero => rfl
  | succ k ih =>
    unfold putTo
    rw [ih (by omega)]
    have : (ts ++ us).getD k t0 = ts.getD k t0 := by simp only [List.getD_eq_getElem?_getD]; rw [List.getElem?_append_left (by omega)]
    rw [this]
theorem lastC_app (cols : Int) (ts us : List Tri) (k : Nat) (hk : k ≤ ts.length) : lastC cols (ts ++ us) k = lastC cols ts k := by
  cases k with
  | zero => rfl
  | succ k =>
    show plc cols ((ts ++ us).getD k t0) = plc cols (ts.getD k t0)
    have : (ts ++ us).getD k t0 = ts.getD k t0 := by simp only [List.getD_eq_getElem?_getD]; rw [List.getElem?_append_left (by omega)]
    rw [this]
/-- The cells of a matrix are cells, and are the matrix. -/
theorem cellsTo_ok (r c : Nat) (zs : List Int) (hz : ∀ j, j < zs.length → 0 ≤ zs.getD j 0 ∧ zs.getD j 0 ≤ 4095) (hl : zs.length = r * c) (hc : 1 ≤ c) (k : Nat) (hk : k ≤ r * c) :
    okCto r c (cellsTo c zs k) (cellsTo c zs k).length ∧ lastC c (cellsTo c zs k) (cellsTo c zs k).length < k ∧ (∀ p, (putTo (r * c) c (cellsTo c zs k) (cellsTo c zs k).length).getD p 0 = if p < k then zs.getD p 0 else 0) := by
  induction k with
  | zero =>
    refine ⟨okCto_zero _ _ _, by simp [cellsTo, lastC], fun p => ?_⟩
    simp [cellsTo, putTo, List.getD_eq_getElem?_getD, List.getElem?_replicate]; split <;> simp
  | succ k ih =>
    obtain ⟨i1, i2, i3⟩ := ih (by omega)
    unfold cellsTo
    by_cases e : zs.getD k 0 = 0
    · rw [if_pos e, List.append_nil]
      refine ⟨i1, by omega, fun p => ?_⟩
      rw [i3]
      by_cases e2 : p = k
      · subst e2; rw [e]; simp
      · by_cases e3 : p < k
        · rw [if_pos e3, if_pos (by omega)]
        · rw [if_neg e3, if_neg (by omega)]
    · rw [if_neg e]
      generalize hts : cellsTo c zs k = ts at *
      generalize ht : (((k / c : Nat) : Int), ((k % c : Nat) : Int), zs.getD k 0) = t
      have hp : plc c t = k := by
        subst ht
        unfold plc
        show ((k / c : Nat) : Int) * (c : Int) + ((k % c : Nat) : Int) = (k : Int)
        have := Nat.div_add_mod k c
        rw [Nat.mul_comm] at this
        exact_mod_cast this
      have hgd : (ts ++ [t]).getD ts.length t0 = t := by simp [List.getD_eq_getElem?_getD]
      have hlen : (ts ++ [t]).length = ts.length + 1 := by simp
      rw [hlen]
      have hkc : k / c < r := (Nat.div_lt_iff_lt_mul (by omega)).2 (by omega)
      have hmc : k % c < c := Nat.mod_lt _ (by omega)
      refine ⟨okCto_succ (fun j hj => ?_) ?_, ?_, fun p => ?_⟩
      · have := i1 j hj
        rw [lastC_app _ _ _ _ (by omega)]
        have e4 : (ts ++ [t]).getD j t0 = ts.getD j t0 := by simp only [List.getD_eq_getElem?_getD]; rw [List.getElem?_append_left (by omega)]
        rw [e4]; exact this
      · rw [hgd, lastC_app _ _ _ _ (Nat.le_refl _)]
        have hv := hz k (by omega)
        subst ht
        exact ⟨⟨Int.natCast_nonneg _, Int.ofNat_lt.2 hkc⟩, ⟨Int.natCast_nonneg _, Int.ofNat_lt.2 hmc⟩, hv, e, by rw [hp]; omega⟩
      · show plc c ((ts ++ [t]).getD ts.length t0) < _
        rw [hgd, hp]; omega
      · unfold putTo
        rw [hgd, hp, putTo_app _ _ _ _ _ (Nat.le_refl _), getD_set, putTo_len, i3]
        have hv : t.2.2 = zs.getD k 0 := by subst ht; rfl
        rw [hv]
        simp only [Int.toNat_natCast]
        by_cases e2 : k = p
        · subst e2; rw [if_pos ⟨rfl, by omega⟩, if_pos (by omega)]
        · rw [if_neg (fun h => e2 h.1)]
          by_cases e3 : p < k
          · rw [if_pos e3, if_pos (by omega)]
          · rw [if_neg e3, if_neg (by omega)]
theorem ext_getD {xs ys : List Int} (hl : xs.length = ys.length) (h : ∀ p, p < xs.length → xs.getD p 0 = ys.getD p 0) : xs = ys := by
  apply List.ext_getElem hl
  intro p h1 h2
  have := h p h1
  simpa [List.getD_eq_getElem?_getD, h1, h2] using this
theorem put_cells (r c : Nat) (zs : List Int) (hz : ∀ j, j < zs.length → 0 ≤ zs.getD j 0 ∧ zs.getD j 0 ≤ 4095) (hl : zs.length = r * c) (hc : 1 ≤ c) :
    putTo (r * c) c (cellsTo c zs (r * c)) (cellsTo c zs (r * c)).length = zs := by
  apply ext_getD
  · rw [putTo_len, hl]
  · intro p hp
    rw [putTo_len] at hp
    rw [(cellsTo_ok r c zs hz hl hc (r * c) (Nat.le_refl _)).2.2 p, if_pos hp]
theorem lastC_mono {rows cols : Int} {ts : List Tri} (h : okCto rows cols ts ts.length) {i j : Nat} (hij : i < j) (hj : j < ts.length) : plc cols (ts.getD i t0) < plc cols (ts.getD j t0) := by
  induction j with
  | zero => omega
  | succ j ih =>
    have h1 := (h (j + 1) hj).2.2.2.2
    have h1' : plc cols (ts.getD j t0) < plc cols (ts.getD (j + 1) t0) := h1
    by_cases e : i = j
    · subst e; exact h1'
    · have := ih (by omega) (by omega); omega
/-- What lies at a place behind all cells. -/
theorem putTo_at {rows cols : Int} {ts : List Tri} (n : Nat) (hn : rows * cols = n) (hc : cols ≤ 5) (h : okCto rows cols ts ts.length) (k : Nat) (hk : k ≤ ts.length) :
    (∀ j, j < k → (putTo n cols ts k).getD (plc cols (ts.getD j t0)).toNat 0 = (ts.getD j t0).2.2) ∧ (∀ p : Nat, (∀ j, j < k → plc cols (ts.getD j t0) ≠ p) → (putTo n cols ts k).getD p 0 = 0) := by
  induction k with
  | zero =>
    refine ⟨fun j hj => absurd hj (by omega), fun p _ => ?_⟩
    simp [putTo, List.getD_eq_getElem?_getD, List.getElem?_replicate]; split <;> simp
  | succ k ih =>
    obtain ⟨a, b⟩ := ih (by omega)
    have hb := plc_bound (h k (by omega)) hc
    refine ⟨fun j hj => ?_, fun p hp => ?_⟩
    · unfold putTo
      rw [getD_set, putTo_len]
      have hbj := plc_bound (h j (by omega)) hc
      by_cases e : j = k
      · subst e; rw [if_pos ⟨rfl, by omega⟩]
      · have := lastC_mono h (show j < k by omega) (by omega)
        rw [if_neg (by omega)]
        exact a j (by omega)
    · unfold putTo
      rw [getD_set, putTo_len]
      have := hp k (by omega)
      rw [if_neg (by omega)]
      exact b p (fun j hj => hp j (by omega))
theorem cells_put {r c : Nat} {ts : List Tri} (hc1 : 1 ≤ c) (hc : c ≤ 5) (h : okCto r c ts ts.length) (K : Nat) (hK : K ≤ r * c) :
    ∃ j, j ≤ ts.length ∧ cellsTo c (putTo (r * c) c ts ts.length) K = ts.take j ∧ (∀ i, i < j → plc c (ts.getD i t0) < K) ∧ (∀ i, j ≤ i → i < ts.length → (K : Int) ≤ plc c (ts.getD i t0)) := by
  have hat := putTo_at (rows := r) (cols := c) (ts := ts) (r * c) (by simp) (by omega) h ts.length (Nat.le_refl _)
  induction K with
  | zero => exact ⟨0, Nat.zero_le _, by simp [cellsTo], fun i hi => absurd hi (by omega), fun i _ hi => by have := plc_bound (h i hi) (by omega); omega⟩
  | succ K ih =>
    obtain ⟨j, hj, e1, e2, e3⟩ := ih (by omega)
    unfold cellsTo
    rw [e1]
    by_cases hcase : j < ts.length ∧ plc c (ts.getD j t0) = K
    · obtain ⟨hjl, hpk⟩ := hcase
      have hv := hat.1 j hjl
      rw [hpk, Int.toNat_natCast] at hv
      have hok := h j hjl
      rw [hv, if_neg hok.2.2.2.1]
      refine ⟨j + 1, hjl, ?_, fun i hi => ?_, fun i hi hil => ?_⟩
      · have e0 : ts.take (j + 1) = ts.take j ++ [ts.getD j t0] := by rw [List.take_add_one, List.getElem?_eq_getElem hjl]; simp [hjl]
        rw [e0]
        congr 2
        have hq : plc c (ts.getD j t0) = (K : Int) := hpk
        unfold plc at hq
        obtain ⟨⟨a1, a2⟩, ⟨b1, b2⟩, _⟩ := hok
        generalize ts.getD j t0 = t at *
        obtain ⟨a, b, v⟩ := t
        simp only at *
        obtain ⟨a', rfl⟩ := Int.eq_ofNat_of_zero_le a1
        obtain ⟨b', rfl⟩ := Int.eq_ofNat_of_zero_le b1
        have hk' : a' * c + b' = K := by exact_mod_cast hq
        have hb' : b' < c := by omega
        have d1 : K / c = a' := by rw [← hk', Nat.mul_comm, Nat.mul_add_div (by omega), Nat.div_eq_of_lt hb', Nat.add_zero]
        have d2 : K % c = b' := by rw [← hk', Nat.mul_comm, Nat.mul_add_mod, Nat.mod_eq_of_lt hb']
        rw [d1, d2]
      · by_cases e : i = j
        · subst e; omega
        · have := e2 i (by omega); omega
      · have := lastC_mono h (show j < i by omega) hil
        omega
    · have hz : (putTo (r * c) c ts ts.length).getD K 0 = 0 := hat.2 K (fun i hi he => by
        rcases Nat.lt_or_ge i j with h1 | h1
        · have := e2 i h1; omega
        · by_cases e : i = j
          · subst e; exact hcase ⟨hi, he⟩
          · have h4 := e3 j (Nat.le_refl _) (by omega)
            have := lastC_mono h (show j < i by omega) hi
            omega)
      rw [if_pos hz, List.append_nil]
      refine ⟨j, hj, rfl, fun i hi => by have := e2 i hi; omega, fun i hi hil => ?_⟩
      have h4 := e3 i hi hil
      by_cases e : i = j
      · subst e
        have : plc c (ts.getD i t0) ≠ K := fun he => hcase ⟨hil, he⟩
        omega
      · have := lastC_mono h (show j < i by omega) hil
        have h5 := e3 j (Nat.le_refl _) (by omega)
        omega
/-- The cells of the matrix of cells are the cells. -/
theorem cells_put_all {r c : Nat} {ts : List Tri} (hc1 : 1 ≤ c) (hc : c ≤ 5) (h : okCto r c ts ts.length) : cellsTo c (putTo (r * c) c ts ts.length) (r * c) = ts := by
  obtain ⟨j, hj, e1, _, e3⟩ := cells_put hc1 hc h (r * c) (Nat.le_refl _)
  rw [e1]
  rcases Nat.lt_or_ge j ts.length with h1 | h1
  · have := e3 j (Nat.le_refl _) h1
    have hb := plc_bound (h j h1) (by omega)
    have : ((r * c : Nat) : Int) = (r : Int) * c := by simp
    omega
  · exact List.take_of_length_le h1
end Go.Proofs.Ytdebnbgjnmoleaa
