/- Plain laws of tables of numbers: sums, edges, turned tables. No program in sight. -/
import Derived.WalkKit
import Derived.Laws.CopyOwn
namespace Go.Proofs.Ytilmglockldddaa

theorem ext_getM {xs ys : List Int} (hl : xs.length = ys.length) (h : ∀ p, p < xs.length → xs.getD p 0 = ys.getD p 0) : xs = ys := by
  apply List.ext_getElem hl
  intro p h1 h2
  have := h p h1
  simpa [List.getD_eq_getElem?_getD, h1, h2] using this
theorem ix_div {n a t : Nat} (ht : t < n) : (a * n + t) / n = a := by rw [Nat.mul_comm, Nat.mul_add_div (by omega), Nat.div_eq_of_lt ht, Nat.add_zero]
theorem ix_mod {n a t : Nat} (ht : t < n) : (a * n + t) % n = t := by rw [Nat.mul_comm, Nat.mul_add_mod, Nat.mod_eq_of_lt ht]
theorem ix_lt {n r a t : Nat} (ha : a < r) (ht : t < n) : a * n + t < r * n := by
  have : (a + 1) * n ≤ r * n := Nat.mul_le_mul_right _ (by omega)
  rw [Nat.add_mul] at this
  omega
theorem ix_eq {n p : Nat} : p / n * n + p % n = p := by rw [Nat.mul_comm]; exact Nat.div_add_mod p n
/-- The table with r rows and c columns of a function. -/
def tab (r c : Nat) (f : Nat → Nat → Int) : List Int := (List.range (r * c)).map fun k => f (k / c) (k % c)
theorem tab_len (r c : Nat) (f : Nat → Nat → Int) : (tab r c f).length = r * c := by simp [tab]
theorem tab_get (r c : Nat) (f : Nat → Nat → Int) (p : Nat) (hp : p < r * c) : (tab r c f).getD p 0 = f (p / c) (p % c) := by simp [tab, hp]
theorem tab_at (r c : Nat) (f : Nat → Nat → Int) (a b : Nat) (ha : a < r) (hb : b < c) : (tab r c f).getD (a * c + b) 0 = f a b := by
  rw [tab_get _ _ _ _ (ix_lt ha hb), ix_div hb, ix_mod hb]
theorem eq_tab {r c : Nat} {zs : List Int} (f : Nat → Nat → Int) (hl : zs.length = r * c) (h : ∀ a b, a < r → b < c → zs.getD (a * c + b) 0 = f a b) : zs = tab r c f := by
  apply ext_getM
  · rw [tab_len, hl]
  · intro p hp
    rw [hl] at hp
    have hc : 0 < c := by rcases Nat.eq_zero_or_pos c with h | h; subst h; simp at hp; exact h
    have := h (p / c) (p % c) ((Nat.div_lt_iff_lt_mul hc).2 hp) (Nat.mod_lt _ hc)
    rw [ix_eq] at this
    rw [this, tab_get _ _ _ _ hp]
theorem tab_congr {r c : Nat} {f g : Nat → Nat → Int} (h : ∀ a b, a < r → b < c → f a b = g a b) : tab r c f = tab r c g :=
  eq_tab g (tab_len _ _ _) fun a b ha hb => by rw [tab_at _ _ _ _ _ ha hb, h a b ha hb]
/-- The sum of n numbers. -/
def S (g : Nat → Int) : Nat → Int
  | 0 => 0
  | n + 1 => S g n + g n
theorem S_succ (g : Nat → Int) (n : Nat) : S g (n + 1) = S g n + g n := rfl
theorem S_congr {g h : Nat → Int} {n : Nat} (e : ∀ i, i < n → g i = h i) : S g n = S h n := by
  induction n with
  | zero => rfl
  | succ n ih => unfold S; rw [ih (fun i hi => e i (by omega)), e n (by omega)]
theorem S_add (g : Nat → Int) (n m : Nat) : S g (n + m) = S g n + S (fun i => g (n + i)) m := by
  induction m with
  | zero => simp [S]
  | succ m ih => rw [← Nat.add_assoc, S_succ, S_succ, ih]; omega
theorem S_zero {g : Nat → Int} {n : Nat} (h : ∀ i, i < n → g i = 0) : S g n = 0 := by
  induction n with
  | zero => rfl
  | succ n ih => unfold S; rw [ih (fun i hi => h i (by omega)), h n (by omega)]; rfl
theorem S_plus (g h : Nat → Int) (n : Nat) : S (fun i => g i + h i) n = S g n + S h n := by
  induction n with
  | zero => rfl
  | succ n ih => unfold S; rw [ih]; omega
theorem S_comm (f : Nat → Nat → Int) (n m : Nat) : S (fun a => S (f a) m) n = S (fun b => S (fun a => f a b) n) m := by
  induction n with
  | zero => symm; exact S_zero fun i _ => rfl
  | succ n ih =>
    rw [S_succ, ih, ← S_plus]
    exact S_congr fun i _ => rfl
theorem S_mul (g : Nat → Int) (n m : Nat) : S g (n * m) = S (fun a => S (fun b => g (a * m + b)) m) n := by
  induction n with
  | zero => rw [Nat.zero_mul]; rfl
  | succ n ih => rw [Nat.add_mul, Nat.one_mul, S_add, ih]; rfl
theorem S_mod {g h : Nat → Int} {n : Nat} (e : ∀ i, i < n → g i % 4096 = h i % 4096) : S g n % 4096 = S h n % 4096 := by
  induction n with
  | zero => rfl
  | succ n ih =>
    unfold S
    have h1 := ih fun i hi => e i (by omega)
    have h2 := e n (by omega)
    rw [Int.add_emod, h1, h2, ← Int.add_emod]
theorem S_mid (g : Nat → Int) (n d : Nat) : S (fun a => if d ≤ a ∧ a < d + n then g (a - d) else 0) (n + 2 * d) = S g n := by
  have e : n + 2 * d = d + (n + d) := by omega
  rw [e, S_add, S_zero (g := fun a => if d ≤ a ∧ a < d + n then g (a - d) else 0) (n := d) (fun i hi => if_neg (by omega)), S_add]
  rw [S_zero (n := d) (fun i hi => if_neg (by omega))]
  rw [S_congr (h := g) (n := n) (fun i hi => by rw [if_pos (by omega)]; congr 1; omega)]
  omega
/-- The running sum in the ring. -/
def rsum (zs : List Int) : Nat → Int
  | 0 => 0
  | k + 1 => (rsum zs k + zs.getD k 0) % 4096
theorem rsum_range (zs : List Int) (k : Nat) : 0 ≤ rsum zs k ∧ rsum zs k ≤ 4095 := by
  cases k with
  | zero => simp [rsum]
  | succ k => unfold rsum; omega
theorem rsum_S (zs : List Int) (k : Nat) : rsum zs k = S (fun i => zs.getD i 0) k % 4096 := by
  induction k with
  | zero => rfl
  | succ k ih => unfold rsum S; rw [ih, Int.emod_add_emod]
theorem S_tab (r c : Nat) (f : Nat → Nat → Int) : S (fun i => (tab r c f).getD i 0) (r * c) = S (fun a => S (fun b => f a b) c) r := by
  rw [S_mul]
  exact S_congr fun a ha => S_congr fun b hb => tab_at _ _ _ _ _ ha hb
/-- Edges. -/
def edgeAt (d r c : Nat) (zs : List Int) (a b : Nat) : Int := if d ≤ a ∧ a < d + r then (if d ≤ b ∧ b < d + c then zs.getD ((a - d) * c + (b - d)) 0 else 0) else 0
def edgeZ (d r c : Nat) (zs : List Int) : List Int := tab (r + 2 * d) (c + 2 * d) (edgeAt d r c zs)
def edgeTo (d r c : Nat) (zs : List Int) (k : Nat) : List Int := tab (r + 2 * d) (c + 2 * d) fun a b => if a < d + k then edgeAt d r c zs a b else 0
theorem edgeTo_len (d r c : Nat) (zs : List Int) (k : Nat) : (edgeTo d r c zs k).length = (r + 2 * d) * (c + 2 * d) := tab_len _ _ _
theorem edgeTo_zero (d r c : Nat) (zs : List Int) : edgeTo d r c zs 0 = List.replicate ((r + 2 * d) * (c + 2 * d)) 0 := by
  symm
  refine eq_tab _ (by simp) fun a b ha hb => ?_
  have : (List.replicate ((r + 2 * d) * (c + 2 * d)) (0 : Int)).getD (a * (c + 2 * d) + b) 0 = 0 := by simp [List.getD_eq_getElem?_getD, List.getElem?_replicate]; split <;> simp
  rw [this]
  split
  · unfold edgeAt; rw [if_neg (by omega)]
  · rfl
theorem edgeTo_full (d r c : Nat) (zs : List Int) : edgeTo d r c zs r = edgeZ d r c zs := tab_congr fun a b _ _ => by
  split
  · rfl
  · unfold edgeAt; rw [if_neg (by omega)]
theorem splice_get (L : List Int) (off : Nat) (cs : List Int) (h : off + cs.length ≤ L.length) (p : Nat) : (splice L off cs).getD p 0 = if off ≤ p ∧ p < off + cs.length then cs.getD (p - off) 0 else L.getD p 0 := by
  unfold splice
  simp only [List.getD_eq_getElem?_getD]
  by_cases h1 : p < off
  · rw [if_neg (by omega), List.getElem?_append_left (by simp; omega), List.getElem?_take_of_lt h1]
  · rw [List.getElem?_append_right (by simp; omega), show (L.take off).length = off by simp; omega]
    by_cases h2 : p < off + cs.length
    · rw [if_pos (by omega), List.getElem?_append_left (by omega)]
    · rw [if_neg (by omega), List.getElem?_append_right (by omega), List.getElem?_drop]
      congr 2; omega
theorem edgeTo_succ (d r c : Nat) (zs : List Int) (k : Nat) (hk : k < r) (hl : zs.length = r * c) : splice (edgeTo d r c zs k) ((k + d) * (c + 2 * d) + d) ((zs.drop (k * c)).take c) = edgeTo d r c zs (k + 1) := by
  have hkc : k * c + c ≤ r * c := by have : (k + 1) * c ≤ r * c := Nat.mul_le_mul_right _ (by omega); rw [Nat.add_mul] at this; omega
  have hcl : ((zs.drop (k * c)).take c).length = c := by simp; omega
  have hoff : (k + d) * (c + 2 * d) + d + c ≤ (r + 2 * d) * (c + 2 * d) := by
    have : (k + d + 1) * (c + 2 * d) ≤ (r + 2 * d) * (c + 2 * d) := Nat.mul_le_mul_right _ (by omega)
    rw [Nat.add_mul (k + d) 1] at this; omega
  have hfit : (k + d) * (c + 2 * d) + d + ((zs.drop (k * c)).take c).length ≤ (edgeTo d r c zs k).length := by rw [edgeTo_len, hcl]; exact hoff
  refine eq_tab _ (by rw [length_splice _ _ _ hfit, edgeTo_len]) fun a b ha hb => ?_
  rw [splice_get _ _ _ hfit, hcl]
  have hin : ((k + d) * (c + 2 * d) + d ≤ a * (c + 2 * d) + b ∧ a * (c + 2 * d) + b < (k + d) * (c + 2 * d) + d + c) ↔ a = k + d ∧ d ≤ b ∧ b < d + c := by
    constructor
    · rintro ⟨h1, h2⟩
      have e : a = k + d := by
        rcases Nat.lt_trichotomy a (k + d) with h | h | h
        · have : (a + 1) * (c + 2 * d) ≤ (k + d) * (c + 2 * d) := Nat.mul_le_mul_right _ (by omega)
          rw [Nat.add_mul a 1] at this; omega
        · exact h
        · have : (k + d + 1) * (c + 2 * d) ≤ a * (c + 2 * d) := Nat.mul_le_mul_right _ (by omega)
          rw [Nat.add_mul (k + d) 1] at this; omega
      subst e
      omega
    · rintro ⟨rfl, h1, h2⟩; omega
  by_cases e : a = k + d ∧ d ≤ b ∧ b < d + c
  · rw [if_pos (hin.2 e)]
    obtain ⟨rfl, h1, h2⟩ := e
    rw [if_pos (by omega)]
    unfold edgeAt
    rw [if_pos (by omega), if_pos (by omega)]
    simp only [List.getD_eq_getElem?_getD]
    rw [List.getElem?_take_of_lt (by omega), List.getElem?_drop]
    congr 2
    rw [Nat.add_sub_cancel]; omega
  · rw [if_neg (fun h => e (hin.1 h)), edgeTo, tab_at _ _ _ _ _ ha hb]
    by_cases h1 : a < d + k
    · rw [if_pos h1, if_pos (by omega)]
    · rw [if_neg h1]
      by_cases h2 : a < d + (k + 1)
      · rw [if_pos h2]; unfold edgeAt
        rw [if_pos (by omega), if_neg (by omega)]
      · rw [if_neg h2]
theorem edge_sum (d r c : Nat) (zs : List Int) (_ : zs.length = r * c) : rsum (edgeZ d r c zs) ((r + 2 * d) * (c + 2 * d)) = rsum zs (r * c) := by
  rw [rsum_S, rsum_S]
  congr 1
  rw [edgeZ, S_tab]
  have e1 : (fun a => S (fun b => edgeAt d r c zs a b) (c + 2 * d)) = fun a => if d ≤ a ∧ a < d + r then (fun a' => S (fun b => zs.getD (a' * c + b) 0) c) (a - d) else 0 := by
    funext a
    unfold edgeAt
    by_cases h : d ≤ a ∧ a < d + r
    · rw [if_pos h]
      simp only [if_pos h]
      exact S_mid (fun b => zs.getD ((a - d) * c + b) 0) c d
    · rw [if_neg h]
      simp only [if_neg h]
      exact S_zero fun _ _ => rfl
  rw [e1, S_mul]
  exact S_mid (fun a' => S (fun b => zs.getD (a' * c + b) 0) c) r d
/-- Turned. -/
def turnZ (r c : Nat) (zs : List Int) : List Int := tab c r fun a b => zs.getD (b * c + a) 0
theorem turn_edge (d r c : Nat) (zs : List Int) : turnZ (r + 2 * d) (c + 2 * d) (edgeZ d r c zs) = edgeZ d c r (turnZ r c zs) := by
  unfold turnZ
  rw [edgeZ.eq_1 d c r]
  refine tab_congr fun a b ha hb => ?_
  rw [edgeZ, tab_at _ _ _ _ _ hb ha]
  unfold edgeAt
  by_cases h1 : d ≤ b ∧ b < d + r
  · by_cases h2 : d ≤ a ∧ a < d + c
    · rw [if_pos h1, if_pos h2, if_pos h2, if_pos h1, tab_at _ _ _ _ _ (by omega) (by omega)]
    · rw [if_pos h1, if_neg h2, if_neg h2]
  · rw [if_neg h1]
    by_cases h2 : d ≤ a ∧ a < d + c
    · rw [if_pos h2, if_neg h1]
    · rw [if_neg h2]
theorem turnZ_len (r c : Nat) (zs : List Int) : (turnZ r c zs).length = c * r := tab_len _ _ _
theorem getD_rng {zs : List Int} (h : ∀ j, j < zs.length → 0 ≤ zs.getD j 0 ∧ zs.getD j 0 ≤ 4095) (p : Nat) : 0 ≤ zs.getD p 0 ∧ zs.getD p 0 ≤ 4095 := by
  rcases Nat.lt_or_ge p zs.length with h1 | h1
  · exact h p h1
  · have : zs.getD p 0 = 0 := by rw [List.getD_eq_getElem?_getD, List.getElem?_eq_none h1]; rfl
    rw [this]; omega
theorem tab_rng {r c : Nat} {f : Nat → Nat → Int} (h : ∀ a b, a < r → b < c → 0 ≤ f a b ∧ f a b ≤ 4095) : ∀ j, j < (tab r c f).length → 0 ≤ (tab r c f).getD j 0 ∧ (tab r c f).getD j 0 ≤ 4095 := fun j hj => by
  rw [tab_len] at hj
  have hc : 0 < c := by rcases Nat.eq_zero_or_pos c with h | h; subst h; simp at hj; exact h
  rw [tab_get _ _ _ _ hj]
  exact h _ _ ((Nat.div_lt_iff_lt_mul hc).2 hj) (Nat.mod_lt _ hc)
theorem edgeAt_rng {zs : List Int} (h : ∀ j, j < zs.length → 0 ≤ zs.getD j 0 ∧ zs.getD j 0 ≤ 4095) (d r c a b : Nat) : 0 ≤ edgeAt d r c zs a b ∧ edgeAt d r c zs a b ≤ 4095 := by
  unfold edgeAt
  split
  · split
    · exact getD_rng h _
    · omega
  · omega
end Go.Proofs.Ytilmglockldddaa
