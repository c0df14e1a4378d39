/- Plain laws of products of cells. No program in sight. -/
import Derived.Test.YtdebnbgjnmoleaaPlainF
namespace Go.Proofs.Ytdebnbgjnmoleaa

theorem idx_inj {n a t b u : Nat} (ht : t < n) (hu : u < n) : a * n + t = b * n + u ↔ a = b ∧ t = u := by
  constructor
  · intro h
    have h1 : (a * n + t) / n = a := by rw [Nat.mul_comm, Nat.mul_add_div (by omega), Nat.div_eq_of_lt ht, Nat.add_zero]
    have h2 : (b * n + u) / n = b := by rw [Nat.mul_comm, Nat.mul_add_div (by omega), Nat.div_eq_of_lt hu, Nat.add_zero]
    have : a = b := by rw [← h1, ← h2, h]
    subst this
    exact ⟨rfl, by omega⟩
  · rintro ⟨rfl, rfl⟩; rfl
theorem idx_lt {n r a t : Nat} (ha : a < r) (ht : t < n) : a * n + t < r * n := by
  have : (a + 1) * n ≤ r * n := Nat.mul_le_mul_right _ (by omega)
  rw [Nat.add_mul] at this
  omega
/-- A row's products, the first T of them, summed up. -/
def dot (as ms : List Int) (inner c row col : Nat) : Nat → Int
  | 0 => 0
  | t + 1 => dot as ms inner c row col t + as.getD (row * inner + t) 0 * ms.getD (t * c + col) 0
def mulZ (r inner c : Nat) (as ms : List Int) : List Int := (List.range (r * c)).map fun k => dot as ms inner c (k / c) (k % c) inner % 4096
theorem mulZ_len (r inner c : Nat) (as ms : List Int) : (mulZ r inner c as ms).length = r * c := by simp [mulZ]
theorem mulZ_at (r inner c : Nat) (as ms : List Int) (p : Nat) (hp : p < r * c) : (mulZ r inner c as ms).getD p 0 = dot as ms inner c (p / c) (p % c) inner % 4096 := by simp [mulZ, hp]
theorem dot_zero (as ms : List Int) (inner c row col T : Nat) (h : ∀ p, as.getD p 0 = 0) : dot as ms inner c row col T = 0 := by
  induction T with
  | zero => rfl
  | succ T ih => unfold dot; rw [ih, h]; simp
theorem dot_set (as ms : List Int) (inner c row col a t : Nat) (v : Int) (ht : t < inner) (hl : a * inner + t < as.length) (T : Nat) (hT : T ≤ inner) :
    dot (as.set (a * inner + t) v) ms inner c row col T = dot as ms inner c row col T + (if row = a ∧ t < T then (v - as.getD (a * inner + t) 0) * ms.getD (t * c + col) 0 else 0) := by
  induction T with
  | zero => simp [dot]
  | succ T ih =>
    unfold dot
    rw [ih (by omega), getD_set]
    by_cases e : a * inner + t = row * inner + T
    · obtain ⟨rfl, rfl⟩ := (idx_inj ht (by omega)).1 e
      rw [if_neg (fun h => absurd h.2 (by omega)), if_pos ⟨rfl, hl⟩, if_pos ⟨rfl, by omega⟩, Int.sub_mul]
      omega
    · rw [show (if a * inner + t = row * inner + T ∧ row * inner + T < as.length then v else as.getD (row * inner + T) 0) = as.getD (row * inner + T) 0 from if_neg (fun h => e h.1)]
      have hne : ¬ (a = row ∧ t = T) := fun h => e ((idx_inj ht (by omega)).2 h)
      by_cases e2 : row = a ∧ t < T
      · rw [if_pos e2, if_pos ⟨e2.1, by omega⟩]; omega
      · rw [if_neg e2, if_neg (fun h => by
          apply e2; refine ⟨h.1, ?_⟩
          rcases Nat.lt_or_ge t T with h3 | h3
          · exact h3
          · exact absurd ⟨h.1.symm, by omega⟩ hne)]
        omega
/-- A cell's row, added on: the first j values. -/
def tStep (mc : Nat) (ms : List Int) (t : Tri) (ys : List Int) : Nat → List Int
  | 0 => ys
  | j + 1 => (tStep mc ms t ys j).set (t.1.toNat * mc + j) (((tStep mc ms t ys j).getD (t.1.toNat * mc + j) 0 + t.2.2 * ms.getD (t.2.1.toNat * mc + j) 0) % 4096)
def tTo (n mc : Nat) (ms : List Int) (ts : List Tri) : Nat → List Int
  | 0 => List.replicate n 0
  | k + 1 => tStep mc ms (ts.getD k t0) (tTo n mc ms ts k) mc
theorem tStep_len (mc : Nat) (ms : List Int) (t : Tri) (ys : List Int) (j : Nat) : (tStep mc ms t ys j).length = ys.length := by
  induction j with
  | zero => rfl
  | succ j ih => unfold tStep; rw [List.length_set, ih]
theorem tTo_len (n mc : Nat) (ms : List Int) (ts : List Tri) (k : Nat) : (tTo n mc ms ts k).length = n := by
  induction k with
  | zero => simp [tTo]
  | succ k ih => unfold tTo; rw [tStep_len, ih]
theorem getD_rep (n p : Nat) : (List.replicate n (0 : Int)).getD p 0 = 0 := by simp [List.getD_eq_getElem?_getD, List.getElem?_replicate]; split <;> simp
theorem set_range {xs : List Int} (h : ∀ p, 0 ≤ xs.getD p 0 ∧ xs.getD p 0 ≤ 4095) (i : Nat) {v : Int} (h1 : 0 ≤ v) (h2 : v ≤ 4095) : ∀ p, 0 ≤ (xs.set i v).getD p 0 ∧ (xs.set i v).getD p 0 ≤ 4095 := fun p => by
  rw [getD_set]; split
  · exact ⟨h1, h2⟩
  · exact h p
theorem mod_range (x : Int) : 0 ≤ x % 4096 ∧ x % 4096 ≤ 4095 := by omega
theorem tStep_range (mc : Nat) (ms : List Int) (t : Tri) (ys : List Int) (h : ∀ p, 0 ≤ ys.getD p 0 ∧ ys.getD p 0 ≤ 4095) (j : Nat) : ∀ p, 0 ≤ (tStep mc ms t ys j).getD p 0 ∧ (tStep mc ms t ys j).getD p 0 ≤ 4095 := by
  induction j with
  | zero => exact h
  | succ j ih => exact set_range ih _ (mod_range _).1 (mod_range _).2
theorem tTo_range (n mc : Nat) (ms : List Int) (ts : List Tri) (k : Nat) : ∀ p, 0 ≤ (tTo n mc ms ts k).getD p 0 ∧ (tTo n mc ms ts k).getD p 0 ≤ 4095 := by
  induction k with
  | zero => intro p; unfold tTo; rw [getD_rep]; omega
  | succ k ih => exact tStep_range _ _ _ _ ih _
theorem tStep_at (mc : Nat) (ms : List Int) (t : Tri) (ys : List Int) (row : Nat) (hrow : t.1.toNat = row) (r : Nat) (hr : row < r) (hl : ys.length = r * mc) (J : Nat) (hJ : J ≤ mc) (a b : Nat) (hb : b < mc) :
    (tStep mc ms t ys J).getD (a * mc + b) 0 = if a = row ∧ b < J then (ys.getD (a * mc + b) 0 + t.2.2 * ms.getD (t.2.1.toNat * mc + b) 0) % 4096 else ys.getD (a * mc + b) 0 := by
  induction J with
  | zero => simp [tStep]
  | succ J ih =>
    unfold tStep
    rw [getD_set, tStep_len, hrow]
    by_cases e : row * mc + J = a * mc + b
    · obtain ⟨rfl, rfl⟩ := (idx_inj (by omega) hb).1 e
      rw [if_pos ⟨rfl, by rw [hl]; exact idx_lt hr hb⟩, if_pos ⟨rfl, by omega⟩, ih (by omega), if_neg (by omega)]
    · rw [if_neg (fun h => e h.1), ih (by omega)]
      have hne : ¬ (row = a ∧ J = b) := fun h => e ((idx_inj (by omega) hb).2 h)
      by_cases e2 : a = row ∧ b < J
      · rw [if_pos e2, if_pos ⟨e2.1, by omega⟩]
      · rw [if_neg e2, if_neg (fun h => by
          apply e2; refine ⟨h.1, ?_⟩
          rcases Nat.lt_or_ge b J with h3 | h3
          · exact h3
          · exact absurd ⟨h.1.symm, by omega⟩ hne)]
/-- The cells' product is the product of the matrix of the cells. -/
theorem times_mul (r inner mc : Nat) (ms : List Int) (ts : List Tri) (hc : 1 ≤ inner ∧ inner ≤ 5) (_ : 1 ≤ mc) (h : okCto r inner ts ts.length) (k : Nat) (hk : k ≤ ts.length) (a b : Nat) (_ : a < r) (hb : b < mc) :
    (tTo (r * mc) mc ms ts k).getD (a * mc + b) 0 = dot (putTo (r * inner) inner ts k) ms inner mc a b inner % 4096 := by
  induction k with
  | zero =>
    unfold tTo putTo
    rw [getD_rep, dot_zero _ _ _ _ _ _ _ (fun p => getD_rep _ _)]
    rfl
  | succ k ih =>
    have hok := h k (by omega)
    have hz := (putTo_at (rows := r) (cols := inner) (ts := ts) (r * inner) (by simp) (by omega) h k (by omega)).2
    have hnew : (putTo (r * inner) inner ts k).getD (plc inner (ts.getD k t0)).toNat 0 = 0 := hz _ (fun j hj => by
      have := lastC_mono h hj (show k < ts.length by omega)
      have hb := plc_bound (h k (by omega)) (by omega)
      omega)
    unfold tTo putTo
    generalize ts.getD k t0 = t at *
    obtain ⟨⟨a1, a2⟩, ⟨b1, b2⟩, ⟨v1, v2⟩, _, _⟩ := hok
    obtain ⟨row, hrow⟩ : ∃ row : Nat, t.1 = row := ⟨t.1.toNat, by omega⟩
    obtain ⟨col, hcol⟩ : ∃ col : Nat, t.2.1 = col := ⟨t.2.1.toNat, by omega⟩
    have hp : (plc (inner : Int) t).toNat = row * inner + col := by
      unfold plc
      rw [hrow, hcol]
      have : ((row : Int) * (inner : Int) + (col : Int)) = ((row * inner + col : Nat) : Int) := by simp
      rw [this, Int.toNat_natCast]
    rw [hp] at hnew ⊢
    rw [tStep_at mc ms t _ row (by omega) r (by omega) (tTo_len _ _ _ _ _) mc (Nat.le_refl _) a b hb, ih (by omega),
      dot_set _ _ _ _ _ _ _ _ _ (by omega) (by rw [putTo_len]; exact idx_lt (by omega) (by omega)) inner (Nat.le_refl _), hnew]
    have ht2 : t.2.1.toNat = col := by omega
    rw [ht2]
    by_cases e : a = row
    · subst e
      rw [if_pos ⟨rfl, hb⟩, if_pos ⟨rfl, by omega⟩, Int.sub_zero]
      rw [Int.emod_add_emod]
    · rw [if_neg (fun h => e h.1), if_neg (fun h => e h.1), Int.add_zero]
theorem times_all (r inner mc : Nat) (ms : List Int) (ts : List Tri) (hc : 1 ≤ inner ∧ inner ≤ 5) (hmc : 1 ≤ mc) (h : okCto r inner ts ts.length) :
    tTo (r * mc) mc ms ts ts.length = mulZ r inner mc (putTo (r * inner) inner ts ts.length) ms := by
  apply ext_getD
  · rw [tTo_len, mulZ_len]
  · intro p hp
    rw [tTo_len] at hp
    rw [mulZ_at _ _ _ _ _ _ hp]
    have ha : p / mc < r := (Nat.div_lt_iff_lt_mul (by omega)).2 hp
    have hb : p % mc < mc := Nat.mod_lt _ (by omega)
    have e : p / mc * mc + p % mc = p := by rw [Nat.mul_comm]; exact Nat.div_add_mod p mc
    have := times_mul r inner mc ms ts hc hmc h ts.length (Nat.le_refl _) (p / mc) (p % mc) ha hb
    rw [e] at this
    exact this
end Go.Proofs.Ytdebnbgjnmoleaa
