/- Plain laws of pools and folded matrices. No program in sight. -/
import Derived.Test.YtilmglockldddaaPlainM
namespace Go.Proofs.Ytilmglockldddaa

theorem mod_l (a b : Int) : a % 4096 * b % 4096 = a * b % 4096 := by rw [Int.mul_emod, Int.emod_emod_of_dvd _ (Int.dvd_refl _), ← Int.mul_emod]
theorem mod_r (a b : Int) : a * (b % 4096) % 4096 = a * b % 4096 := by rw [Int.mul_emod, Int.emod_emod_of_dvd _ (Int.dvd_refl _), ← Int.mul_emod]
theorem getM_set (l : List Int) (i : Nat) (v : Int) (p : Nat) : (l.set i v).getD p 0 = if i = p ∧ p < l.length then v else l.getD p 0 := by
  simp only [List.getD_eq_getElem?_getD, List.getElem?_set]
  by_cases e : i = p
  · subst e
    by_cases h : i < l.length
    · simp [h]
    · simp [h]
  · simp [e]
/-- The value number j of block (a, b), and its place. -/
def bix (s c a b j : Nat) : Nat := (a * s + j / s) * c + (b * s + j % s)
def bval (s c : Nat) (zs : List Int) (a b j : Nat) : Int := zs.getD (bix s c a b j) 0
/-- What a step makes of the first j values of a block. -/
def bfold (f : Int → Int → Int) (e : Nat → Int) : Nat → Int
  | 0 => 0
  | j + 1 => if j = 0 then e 0 else f (bfold f e j) (e j)
def poolZ (f : Int → Int → Int) (s pr pc : Nat) (zs : List Int) : List Int := tab pr pc fun a b => bfold f (bval s (pc * s) zs a b) (s * s)
/-- The pool after k values. -/
def poolTo (f : Int → Int → Int) (s pr pc : Nat) (zs : List Int) : Nat → List Int
  | 0 => List.replicate (pr * pc) 0
  | k + 1 => (poolTo f s pr pc zs k).set (k / (pc * s) / s * pc + k % (pc * s) / s)
      (if k / (pc * s) % s = 0 ∧ k % (pc * s) % s = 0 then zs.getD k 0 else f ((poolTo f s pr pc zs k).getD (k / (pc * s) / s * pc + k % (pc * s) / s) 0) (zs.getD k 0))
theorem poolTo_len (f : Int → Int → Int) (s pr pc : Nat) (zs : List Int) (k : Nat) : (poolTo f s pr pc zs k).length = pr * pc := by
  induction k with
  | zero => simp [poolTo]
  | succ k ih => unfold poolTo; rw [List.length_set, ih]
theorem bix_lt {s pc a b i j : Nat} (hs : 1 ≤ s) (hb : b < pc) (hij : i < j) : bix s (pc * s) a b i < bix s (pc * s) a b j := by
  unfold bix
  have hi : b * s + i % s < pc * s := ix_lt hb (Nat.mod_lt _ (by omega))
  have hdiv : i / s ≤ j / s := Nat.div_le_div_right (by omega)
  rcases Nat.lt_or_ge (i / s) (j / s) with h | h
  · have : (a * s + i / s + 1) * (pc * s) ≤ (a * s + j / s) * (pc * s) := Nat.mul_le_mul_right _ (by omega)
    rw [Nat.add_mul (a * s + i / s) 1] at this; omega
  · have e : i / s = j / s := by omega
    have h1 := ix_eq (n := s) (p := i)
    have h2 := ix_eq (n := s) (p := j)
    rw [e] at h1 ⊢
    omega
/-- Which block, and where in it. -/
theorem bix_of {s pc k : Nat} (hs : 1 ≤ s) (_ : 1 ≤ pc) : bix s (pc * s) (k / (pc * s) / s) (k % (pc * s) / s) (k / (pc * s) % s * s + k % (pc * s) % s) = k := by
  unfold bix
  have hm : k % (pc * s) % s < s := Nat.mod_lt _ (by omega)
  rw [ix_div hm, ix_mod hm, ix_eq, ix_eq, ix_eq]
theorem poolTo_inv (f : Int → Int → Int) (s pr pc : Nat) (zs : List Int) (hs : 1 ≤ s) (hpc : 1 ≤ pc) (k : Nat) (hk : k ≤ pr * s * (pc * s)) (a b : Nat) (ha : a < pr) (hb : b < pc) :
    ∃ j, j ≤ s * s ∧ (poolTo f s pr pc zs k).getD (a * pc + b) 0 = bfold f (bval s (pc * s) zs a b) j ∧ (∀ i, i < j → bix s (pc * s) a b i < k) ∧ (∀ i, j ≤ i → i < s * s → k ≤ bix s (pc * s) a b i) := by
  induction k with
  | zero =>
    refine ⟨0, Nat.zero_le _, ?_, fun i hi => absurd hi (by omega), fun i _ _ => Nat.zero_le _⟩
    simp [poolTo, bfold, List.getD_eq_getElem?_getD, List.getElem?_replicate]; split <;> simp
  | succ k ih =>
    obtain ⟨j, hj, e1, e2, e3⟩ := ih (by omega)
    have hcs : 0 < pc * s := Nat.mul_pos hpc hs
    have hrow : k / (pc * s) < pr * s := (Nat.div_lt_iff_lt_mul hcs).2 (by omega)
    have hA : k / (pc * s) / s < pr := (Nat.div_lt_iff_lt_mul hs).2 hrow
    have hB : k % (pc * s) / s < pc := (Nat.div_lt_iff_lt_mul hs).2 (Nat.mod_lt _ hcs)
    have hbo := bix_of (k := k) hs hpc
    have hJ : k / (pc * s) % s * s + k % (pc * s) % s < s * s := ix_lt (Nat.mod_lt _ hs) (Nat.mod_lt _ hs)
    unfold poolTo
    rw [getM_set, poolTo_len]
    by_cases e : k / (pc * s) / s * pc + k % (pc * s) / s = a * pc + b
    · have h1 : k / (pc * s) / s = a := by have := congrArg (· / pc) e; simp only [ix_div hB, ix_div hb] at this; exact this
      have h2 : k % (pc * s) / s = b := by have := congrArg (· % pc) e; simp only [ix_mod hB, ix_mod hb] at this; exact this
      rw [h1, h2] at hbo ⊢
      have hjJ : j = k / (pc * s) % s * s + k % (pc * s) % s := by
        rcases Nat.lt_trichotomy j (k / (pc * s) % s * s + k % (pc * s) % s) with h | h | h
        · have h5 := bix_lt (pc := pc) (a := a) hs hb h
          have h6 := e3 j (Nat.le_refl _) (by omega)
          omega
        · exact h
        · have h5 := e2 _ h; omega
      have hval : bval s (pc * s) zs a b j = zs.getD k 0 := by unfold bval; rw [hjJ, hbo]
      rw [if_pos ⟨rfl, ix_lt ha hb⟩, e1]
      refine ⟨j + 1, by omega, ?_, fun i hi => ?_, fun i hi hi2 => ?_⟩
      · show _ = if j = 0 then bval s (pc * s) zs a b 0 else f (bfold f (bval s (pc * s) zs a b) j) (bval s (pc * s) zs a b j)
        by_cases h0 : k / (pc * s) % s = 0 ∧ k % (pc * s) % s = 0
        · have : j = 0 := by rw [hjJ, h0.1, h0.2]; simp
          rw [if_pos h0, if_pos this, ← hval, this]
        · have : ¬ j = 0 := fun hj0 => by
            rw [hj0] at hjJ
            have h7 : k / (pc * s) % s * s = 0 := by omega
            rcases Nat.mul_eq_zero.1 h7 with h8 | h8
            · exact h0 ⟨h8, by omega⟩
            · omega
          rw [if_neg h0, if_neg this, hval]
      · by_cases h9 : i = j
        · subst h9; rw [hjJ, hbo]; omega
        · have := e2 i (by omega); omega
      · have h5 := bix_lt (pc := pc) (a := a) hs hb (show j < i by omega)
        rw [hjJ, hbo] at h5
        omega
    · rw [if_neg (fun h => e h.1)]
      refine ⟨j, hj, e1, fun i hi => by have := e2 i hi; omega, fun i hi hi2 => ?_⟩
      have h5 := e3 i hi hi2
      have : bix s (pc * s) a b i ≠ k := fun hk' => by
        apply e
        have hmi : i % s < s := Nat.mod_lt _ hs
        have hdi : i / s < s := (Nat.div_lt_iff_lt_mul hs).2 hi2
        have hlt : b * s + i % s < pc * s := ix_lt hb hmi
        have q1 : k / (pc * s) = a * s + i / s := by rw [← hk']; unfold bix; exact ix_div hlt
        have q2 : k % (pc * s) = b * s + i % s := by rw [← hk']; unfold bix; exact ix_mod hlt
        rw [q1, q2, ix_div hdi, ix_div hmi]
      omega
theorem poolTo_full (f : Int → Int → Int) (s pr pc : Nat) (zs : List Int) (hs : 1 ≤ s) (hpc : 1 ≤ pc) : poolTo f s pr pc zs (pr * s * (pc * s)) = poolZ f s pr pc zs := by
  refine eq_tab _ (poolTo_len _ _ _ _ _ _) fun a b ha hb => ?_
  obtain ⟨j, hj, e1, e2, e3⟩ := poolTo_inv f s pr pc zs hs hpc (pr * s * (pc * s)) (Nat.le_refl _) a b ha hb
  have : j = s * s := by
    rcases Nat.lt_or_ge j (s * s) with h | h
    · have h5 := e3 j (Nat.le_refl _) h
      have hd : j / s < s := (Nat.div_lt_iff_lt_mul hs).2 h
      have : bix s (pc * s) a b j < pr * s * (pc * s) := ix_lt (ix_lt ha hd) (ix_lt hb (Nat.mod_lt _ hs))
      omega
    · omega
  rw [e1, this]
/-- Sums in the ring. -/
def addF (a b : Int) : Int := (a + b) % 4096
theorem bfold_add (e : Nat → Int) (he : ∀ j, 0 ≤ e j ∧ e j ≤ 4095) (j : Nat) : bfold addF e j = S e j % 4096 := by
  induction j with
  | zero => rfl
  | succ j ih =>
    unfold bfold
    by_cases h : j = 0
    · subst h
      rw [if_pos rfl]
      unfold S S
      have := he 0
      omega
    · rw [if_neg h, ih, S_succ]; unfold addF; rw [Int.emod_add_emod]
theorem bfold_congr (f : Int → Int → Int) {e g : Nat → Int} (h : ∀ i, e i = g i) (j : Nat) : bfold f e j = bfold f g j := by rw [show e = g from funext h]
/-- The sum of all values of the sums of blocks. -/
theorem pool_sum (s pr pc : Nat) (zs : List Int) (_ : 1 ≤ s) (hz : ∀ j, j < zs.length → 0 ≤ zs.getD j 0 ∧ zs.getD j 0 ≤ 4095) :
    rsum (poolZ addF s pr pc zs) (pr * pc) = rsum zs (pr * s * (pc * s)) := by
  rw [rsum_S, rsum_S, poolZ, S_tab, S_mul]
  rw [S_mul (fun a => S (fun b => zs.getD (a * (pc * s) + b) 0) (pc * s)) pr s]
  refine S_mod fun a ha => ?_
  have e1 : S (fun b => S (fun b_1 => zs.getD ((a * s + b) * (pc * s) + b_1) 0) (pc * s)) s = S (fun b => S (bval s (pc * s) zs a b) (s * s)) pc := by
    rw [S_congr (h := fun i => S (fun b => S (fun t => zs.getD ((a * s + i) * (pc * s) + (b * s + t)) 0) s) pc) (fun i hi => S_mul _ _ _)]
    rw [S_comm]
    refine S_congr fun b hb => ?_
    rw [S_mul]
    refine S_congr fun i hi => S_congr fun t ht => ?_
    unfold bval bix
    rw [ix_div ht, ix_mod ht]
  rw [e1]
  refine S_mod fun b hb => ?_
  rw [bfold_add (bval s (pc * s) zs a b) (fun j => getD_rng hz _), Int.emod_emod_of_dvd _ (Int.dvd_refl _)]
theorem pool_one (f : Int → Int → Int) (pr pc : Nat) (zs : List Int) (hl : zs.length = pr * pc) : poolZ f 1 pr pc zs = zs := by
  symm
  refine eq_tab _ hl fun a b ha hb => ?_
  unfold bfold bval bix
  simp
/-- The greater signed one. -/
def sgM (x : Int) : Int := if x < 2048 then x else x - 4096
def topF (a b : Int) : Int := if sgM b > sgM a then b else a
theorem bfold_top (e : Nat → Int) (j : Nat) : (∃ i, i < j + 1 ∧ bfold topF e (j + 1) = e i) ∧ ∀ i, i < j + 1 → sgM (e i) ≤ sgM (bfold topF e (j + 1)) := by
  induction j with
  | zero =>
    unfold bfold
    rw [if_pos rfl]
    refine ⟨⟨0, by omega, rfl⟩, fun i hi => ?_⟩
    obtain rfl : i = 0 := by omega
    exact Int.le_refl _
  | succ j ih =>
    obtain ⟨⟨i, hi, e1⟩, e2⟩ := ih
    have hu : bfold topF e (j + 1 + 1) = topF (bfold topF e (j + 1)) (e (j + 1)) := by
      conv => lhs; unfold bfold
      rw [if_neg (by omega)]
    rw [hu]
    generalize bfold topF e (j + 1) = B at *
    unfold topF
    split
    · refine ⟨⟨j + 1, by omega, rfl⟩, fun k hk => ?_⟩
      by_cases h : k = j + 1
      · subst h; exact Int.le_refl _
      · have := e2 k (by omega); omega
    · refine ⟨⟨i, by omega, e1⟩, fun k hk => ?_⟩
      by_cases h : k = j + 1
      · subst h; omega
      · exact e2 k (by omega)
/-- The greatest signed number, not less than the least one. -/
def mxs (zs : List Int) : Nat → Int
  | 0 => -4096
  | k + 1 => max (mxs zs k) (sgM (zs.getD k 0))
theorem mxs_le (zs : List Int) (k : Nat) : ∀ j, j < k → sgM (zs.getD j 0) ≤ mxs zs k := by
  induction k with
  | zero => intro j h; omega
  | succ k ih =>
    intro j hj
    unfold mxs
    by_cases e : j = k
    · subst e; omega
    · have := ih j (by omega); omega
theorem mxs_bound (zs : List Int) (k : Nat) (m : Int) (h0 : -4096 ≤ m) (h : ∀ j, j < k → sgM (zs.getD j 0) ≤ m) : mxs zs k ≤ m := by
  induction k with
  | zero => exact h0
  | succ k ih =>
    unfold mxs
    have := ih fun j hj => h j (by omega)
    have := h k (by omega)
    omega
theorem mxs_low (zs : List Int) (k : Nat) : -4096 ≤ mxs zs k := by
  induction k with
  | zero => exact Int.le_refl _
  | succ k ih => unfold mxs; omega
theorem top_in (s pr pc : Nat) (zs : List Int) (hs : 1 ≤ s) (a b : Nat) (ha : a < pr) (hb : b < pc) : ∃ i, i < pr * s * (pc * s) ∧ bfold topF (bval s (pc * s) zs a b) (s * s) = zs.getD i 0 := by
  have hss : 1 ≤ s * s := Nat.mul_pos hs hs
  obtain ⟨⟨i, hi, e1⟩, _⟩ := bfold_top (bval s (pc * s) zs a b) (s * s - 1)
  rw [show s * s - 1 + 1 = s * s by omega] at hi e1
  have hd : i / s < s := (Nat.div_lt_iff_lt_mul hs).2 hi
  exact ⟨bix s (pc * s) a b i, ix_lt (ix_lt ha hd) (ix_lt hb (Nat.mod_lt _ hs)), e1⟩
theorem top_max (s pr pc : Nat) (zs : List Int) (hs : 1 ≤ s) (hpc : 1 ≤ pc) : mxs (poolZ topF s pr pc zs) (pr * pc) = mxs zs (pr * s * (pc * s)) := by
  have hss : 1 ≤ s * s := Nat.mul_pos hs hs
  apply Int.le_antisymm
  · refine mxs_bound _ _ _ (mxs_low _ _) fun p hp => ?_
    have hA : p / pc < pr := (Nat.div_lt_iff_lt_mul hpc).2 hp
    rw [poolZ, tab_get _ _ _ _ hp]
    obtain ⟨i, hi, e⟩ := top_in s pr pc zs hs (p / pc) (p % pc) hA (Nat.mod_lt _ hpc)
    rw [e]
    exact mxs_le _ _ i hi
  · refine mxs_bound _ _ _ (mxs_low _ _) fun k hk => ?_
    have hcs : 0 < pc * s := Nat.mul_pos hpc hs
    have hrow : k / (pc * s) < pr * s := (Nat.div_lt_iff_lt_mul hcs).2 (by omega)
    have hA : k / (pc * s) / s < pr := (Nat.div_lt_iff_lt_mul hs).2 hrow
    have hB : k % (pc * s) / s < pc := (Nat.div_lt_iff_lt_mul hs).2 (Nat.mod_lt _ hcs)
    have hbo := bix_of (k := k) hs hpc
    have hJ : k / (pc * s) % s * s + k % (pc * s) % s < s * s := ix_lt (Nat.mod_lt _ hs) (Nat.mod_lt _ hs)
    have h1 := (bfold_top (bval s (pc * s) zs (k / (pc * s) / s) (k % (pc * s) / s)) (s * s - 1)).2 _ (show k / (pc * s) % s * s + k % (pc * s) % s < s * s - 1 + 1 by omega)
    rw [show s * s - 1 + 1 = s * s by omega] at h1
    have h2 := mxs_le (poolZ topF s pr pc zs) (pr * pc) (k / (pc * s) / s * pc + k % (pc * s) / s) (ix_lt hA hB)
    rw [poolZ, tab_at _ _ _ _ _ hA hB] at h2
    unfold bval at h1
    rw [hbo] at h1
    exact Int.le_trans h1 h2
/-- Folded matrices. -/
def foldS (_ kc c : Nat) (zs ks : List Int) (a b n : Nat) : Int := S (fun j => zs.getD ((a + j / kc) * c + (b + j % kc)) 0 * ks.getD j 0) n
def foldZ (kr kc r c : Nat) (zs ks : List Int) : List Int := tab (r - kr + 1) (c - kc + 1) fun a b => foldS kr kc c zs ks a b (kr * kc) % 4096
theorem fold_twice (kr kc r c : Nat) (zs ks : List Int) : foldZ kr kc r c zs (ks.map fun k => (k + k) % 4096) = (foldZ kr kc r c zs ks).map fun k => (k + k) % 4096 := by
  symm
  refine eq_tab _ (by simp [foldZ, tab_len]) fun a b ha hb => ?_
  have hp : a * (c - kc + 1) + b < (foldZ kr kc r c zs ks).length := by rw [foldZ, tab_len]; exact ix_lt ha hb
  have e1 : ((foldZ kr kc r c zs ks).map fun k => (k + k) % 4096).getD (a * (c - kc + 1) + b) 0 = ((foldZ kr kc r c zs ks).getD (a * (c - kc + 1) + b) 0 + (foldZ kr kc r c zs ks).getD (a * (c - kc + 1) + b) 0) % 4096 := by
    simp [List.getD_eq_getElem?_getD, List.getElem?_map, List.getElem?_eq_getElem hp]
  rw [e1, foldZ, tab_at _ _ _ _ _ ha hb]
  unfold foldS
  rw [Int.emod_add_emod, Int.add_emod_emod, ← S_plus]
  refine S_mod fun j hj => ?_
  have e2 : (ks.map fun k => (k + k) % 4096).getD j 0 = (ks.getD j 0 + ks.getD j 0) % 4096 := by
    rcases Nat.lt_or_ge j ks.length with h | h
    · simp [List.getD_eq_getElem?_getD, List.getElem?_map, List.getElem?_eq_getElem h]
    · simp [List.getD_eq_getElem?_getD, List.getElem?_map, List.getElem?_eq_none h]
  rw [e2, ← Int.mul_add, mod_r]
theorem fold_one (r c : Nat) (zs : List Int) (hr : 1 ≤ r) (hc : 1 ≤ c) (hl : zs.length = r * c) (hz : ∀ j, j < zs.length → 0 ≤ zs.getD j 0 ∧ zs.getD j 0 ≤ 4095) : foldZ 1 1 r c zs [1] = zs := by
  symm
  unfold foldZ
  rw [show r - 1 + 1 = r by omega, show c - 1 + 1 = c by omega]
  refine eq_tab _ hl fun a b ha hb => ?_
  have := getD_rng hz (a * c + b)
  unfold foldS
  have e : S (fun j => zs.getD ((a + j / 1) * c + (b + j % 1)) 0 * [(1 : Int)].getD j 0) (1 * 1) = zs.getD (a * c + b) 0 := by
    rw [Nat.mul_one, S_succ, show S (fun j => zs.getD ((a + j / 1) * c + (b + j % 1)) 0 * [(1 : Int)].getD j 0) 0 = 0 from rfl]
    simp
  rw [e]
  omega
/-- Two lists added in the ring. -/
def addZ (xs ys : List Int) : List Int := (List.range xs.length).map fun k => (xs.getD k 0 + ys.getD k 0) % 4096
theorem addZ_len (xs ys : List Int) : (addZ xs ys).length = xs.length := by simp [addZ]
theorem addZ_get (xs ys : List Int) (h : xs.length = ys.length) (p : Nat) : (addZ xs ys).getD p 0 = (xs.getD p 0 + ys.getD p 0) % 4096 := by
  rcases Nat.lt_or_ge p xs.length with h1 | h1
  · simp [addZ, List.getD_eq_getElem?_getD, h1]
  · simp [addZ, List.getD_eq_getElem?_getD, List.getElem?_eq_none (show ys.length ≤ p by omega), h1]
theorem fold_add (kr kc r c : Nat) (xs ys ks : List Int) (h : xs.length = ys.length) : addZ (foldZ kr kc r c xs ks) (foldZ kr kc r c ys ks) = foldZ kr kc r c (addZ xs ys) ks := by
  refine eq_tab _ (by rw [addZ_len, foldZ, tab_len]) fun a b ha hb => ?_
  rw [addZ_get _ _ (by simp [foldZ, tab_len]), foldZ, foldZ, tab_at _ _ _ _ _ ha hb, tab_at _ _ _ _ _ ha hb]
  unfold foldS
  rw [Int.emod_add_emod, Int.add_emod_emod, ← S_plus]
  refine S_mod fun j hj => ?_
  rw [addZ_get _ _ h, ← Int.add_mul, mod_l]
theorem pool_add (s pr pc : Nat) (xs ys : List Int) (h : xs.length = ys.length) (hx : ∀ j, j < xs.length → 0 ≤ xs.getD j 0 ∧ xs.getD j 0 ≤ 4095) (hy : ∀ j, j < ys.length → 0 ≤ ys.getD j 0 ∧ ys.getD j 0 ≤ 4095) :
    addZ (poolZ addF s pr pc xs) (poolZ addF s pr pc ys) = poolZ addF s pr pc (addZ xs ys) := by
  refine eq_tab _ (by rw [addZ_len, poolZ, tab_len]) fun a b ha hb => ?_
  rw [addZ_get _ _ (by simp [poolZ, tab_len]), poolZ, poolZ, tab_at _ _ _ _ _ ha hb, tab_at _ _ _ _ _ ha hb]
  rw [bfold_add (bval s (pc * s) xs a b) (fun j => getD_rng hx _), bfold_add (bval s (pc * s) ys a b) (fun j => getD_rng hy _), bfold_add (bval s (pc * s) (addZ xs ys) a b) (fun j => by unfold bval; rw [addZ_get _ _ h]; omega)]
  rw [Int.emod_add_emod, Int.add_emod_emod, ← S_plus]
  refine S_mod fun j hj => ?_
  unfold bval
  rw [addZ_get _ _ h, Int.emod_emod_of_dvd _ (Int.dvd_refl _)]
end Go.Proofs.Ytilmglockldddaa
