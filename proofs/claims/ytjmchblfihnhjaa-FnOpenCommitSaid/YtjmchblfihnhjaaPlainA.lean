/- Plain laws of transcripts and commitments: what the functions compute, as functions of numbers, and why another number makes another transcript. No program in sight. -/
import Derived.WalkKit
namespace Go.Proofs.Ytjmchblfihnhjaa
open Go.RowKit

def okT (t : Int) : Prop := 0 ≤ t ∧ t ≤ 2147483646
def txAdd (t n : Int) : Int := if (0 ≤ t ∧ t ≤ 2147483646) ∧ (0 ≤ n ∧ n ≤ 2147483646) then (t * 48271 + n + 1) % 2147483647 else -1
def txFold (zs : List Int) : Int := zs.foldl txAdd 1
def txOf (zs : List Int) : Int := if 2000 < zs.length then -1 else txFold zs
def cTo (x nonce : Int) : Int := if (0 ≤ x ∧ x ≤ 4095) ∧ (0 ≤ nonce ∧ nonce ≤ 100000) then ((x + 4096 * nonce) * 48271 + 11) % 2147483647 else -1

theorem txAdd_yes {t n : Int} (h1 : 0 ≤ t) (h2 : t ≤ 2147483646) (h3 : 0 ≤ n) (h4 : n ≤ 2147483646) : txAdd t n = (t * 48271 + n + 1) % 2147483647 := if_pos ⟨⟨h1, h2⟩, ⟨h3, h4⟩⟩
theorem txAdd_no {t n : Int} (h : t < 0 ∨ 2147483646 < t ∨ n < 0 ∨ 2147483646 < n) : txAdd t n = -1 := if_neg (by omega)
theorem txAdd_range (t n : Int) : -1 ≤ txAdd t n ∧ txAdd t n ≤ 2147483646 := by unfold txAdd; split <;> omega
theorem txAdd_neg {t n : Int} (h : t < 0) : txAdd t n = -1 := txAdd_no (.inl h)
theorem foldl_neg : ∀ (zs : List Int) {t : Int}, t = -1 → zs.foldl txAdd t = -1
  | [], _, h => h
  | z :: zs, t, h => by
    rw [List.foldl_cons]
    exact foldl_neg zs (txAdd_neg (by omega))
theorem foldl_range : ∀ (zs : List Int) {t : Int}, -1 ≤ t → t ≤ 2147483646 → -1 ≤ zs.foldl txAdd t ∧ zs.foldl txAdd t ≤ 2147483646
  | [], _, h1, h2 => ⟨h1, h2⟩
  | z :: zs, t, _, _ => by
    rw [List.foldl_cons]
    exact foldl_range zs (txAdd_range t z).1 (txAdd_range t z).2
theorem txFold_range (zs : List Int) : -1 ≤ txFold zs ∧ txFold zs ≤ 2147483646 := foldl_range zs (by omega) (by omega)
theorem txOf_range (zs : List Int) : -1 ≤ txOf zs ∧ txOf zs ≤ 2147483646 := by
  unfold txOf
  have := txFold_range zs
  split <;> omega
theorem take_succ' (zs : List Int) (k : Nat) (hk : k < zs.length) : zs.take (k + 1) = zs.take k ++ [zs.getD k 0] := by
  rw [List.take_add_one, List.getElem?_eq_getElem hk]; simp [hk]
theorem txFold_take_succ (zs : List Int) (k : Nat) (hk : k < zs.length) : txFold (zs.take (k + 1)) = txAdd (txFold (zs.take k)) (zs.getD k 0) := by
  rw [take_succ' zs k hk]; simp [txFold]
theorem txFold_stuck {zs : List Int} {k : Nat} (h : txFold (zs.take k) < 0) : txFold zs = -1 := by
  have h1 := txFold_range (zs.take k)
  have e : txFold zs = (zs.drop k).foldl txAdd (txFold (zs.take k)) := by
    unfold txFold
    rw [← List.foldl_append, List.take_append_drop]
  rw [e]
  exact foldl_neg _ (by omega)

/-- Multiplying by 48271 loses nothing, modulo 2147483647. -/
theorem inj_mul {d : Int} (h1 : -2147483647 < d) (h2 : d < 2147483647) (h : (d * 48271) % 2147483647 = 0) : d = 0 := by omega
theorem txAdd_inj_t {s t n : Int} (hs : 0 ≤ s ∧ s ≤ 2147483646) (ht : 0 ≤ t ∧ t ≤ 2147483646) (hn : 0 ≤ n ∧ n ≤ 2147483646) (h : txAdd s n = txAdd t n) : s = t := by
  rw [txAdd_yes hs.1 hs.2 hn.1 hn.2, txAdd_yes ht.1 ht.2 hn.1 hn.2] at h
  have : s - t = 0 := inj_mul (by omega) (by omega) (by omega)
  omega
theorem txAdd_inj_n {t m n : Int} (ht : 0 ≤ t ∧ t ≤ 2147483646) (hm : 0 ≤ m ∧ m ≤ 2147483646) (hn : 0 ≤ n ∧ n ≤ 2147483646) (h : txAdd t m = txAdd t n) : m = n := by
  rw [txAdd_yes ht.1 ht.2 hm.1 hm.2, txAdd_yes ht.1 ht.2 hn.1 hn.2] at h
  omega
theorem txAdd_ok {t n : Int} (ht : 0 ≤ t ∧ t ≤ 2147483646) (hn : 0 ≤ n ∧ n ≤ 2147483646) : 0 ≤ txAdd t n ∧ txAdd t n ≤ 2147483646 := by
  rw [txAdd_yes ht.1 ht.2 hn.1 hn.2]; omega
/-- A transcript that is one has valid numbers alone. -/
theorem fold_valid : ∀ (zs : List Int) {t : Int}, 0 ≤ zs.foldl txAdd t → ∀ z ∈ zs, 0 ≤ z ∧ z ≤ 2147483646
  | [], _, _ => by simp
  | y :: zs, t, h => by
    rw [List.foldl_cons] at h
    intro z hz
    rcases List.mem_cons.1 hz with rfl | hz
    · by_cases hy : 0 ≤ z ∧ z ≤ 2147483646
      · exact hy
      · have e : txAdd t z = -1 := txAdd_no (by omega)
        rw [foldl_neg zs e] at h
        omega
    · exact fold_valid zs h z hz
theorem fold_inj : ∀ (zs : List Int) {s t : Int}, (∀ z ∈ zs, 0 ≤ z ∧ z ≤ 2147483646) → (0 ≤ s ∧ s ≤ 2147483646) → (0 ≤ t ∧ t ≤ 2147483646) → zs.foldl txAdd s = zs.foldl txAdd t → s = t
  | [], _, _, _, _, _, h => h
  | z :: zs, s, t, hz, hs, ht, h => by
    rw [List.foldl_cons, List.foldl_cons] at h
    have hz0 := hz z (by simp)
    exact txAdd_inj_t hs ht hz0 (fold_inj zs (fun y hy => hz y (by simp [hy])) (txAdd_ok hs hz0) (txAdd_ok ht hz0) h)
theorem fold_ok : ∀ (zs : List Int) {t : Int}, (∀ z ∈ zs, 0 ≤ z ∧ z ≤ 2147483646) → (0 ≤ t ∧ t ≤ 2147483646) → 0 ≤ zs.foldl txAdd t ∧ zs.foldl txAdd t ≤ 2147483646
  | [], _, _, h => h
  | z :: zs, t, hz, ht => by
    rw [List.foldl_cons]
    exact fold_ok zs (fun y hy => hz y (by simp [hy])) (txAdd_ok ht (hz z (by simp)))
/-- With one number another one, the transcript is another one. -/
theorem txFold_set {zs : List Int} {k : Nat} {z' : Int} (hk : k < zs.length) (h : 0 ≤ txFold zs) (hz' : 0 ≤ z' ∧ z' ≤ 2147483646) (hne : z' ≠ zs.getD k 0) : txFold (zs.set k z') ≠ txFold zs := by
  intro e
  have hv := fold_valid zs h
  have e1 : zs = zs.take k ++ zs.getD k 0 :: zs.drop (k + 1) := by
    have h1 := List.take_append_drop k zs
    rw [List.drop_eq_getElem_cons hk] at h1
    rw [show zs.getD k 0 = zs[k] by simp [hk]]
    exact h1.symm
  have e2 : zs.set k z' = zs.take k ++ z' :: zs.drop (k + 1) := List.set_eq_take_append_cons_drop .. |>.trans (by rw [if_pos hk])
  have hz : 0 ≤ zs.getD k 0 ∧ zs.getD k 0 ≤ 2147483646 := hv _ (by rw [show zs.getD k 0 = zs[k] by simp [hk]]; exact List.getElem_mem hk)
  have hpre : 0 ≤ txFold (zs.take k) ∧ txFold (zs.take k) ≤ 2147483646 := fold_ok _ (fun y hy => hv y (List.mem_of_mem_take hy)) (by omega)
  have f1 : txFold zs = (zs.drop (k + 1)).foldl txAdd (txAdd (txFold (zs.take k)) (zs.getD k 0)) := by
    conv => lhs; rw [e1]
    simp [txFold, List.foldl_append]
  have f2 : txFold (zs.set k z') = (zs.drop (k + 1)).foldl txAdd (txAdd (txFold (zs.take k)) z') := by
    rw [e2]
    simp [txFold, List.foldl_append]
  rw [f1, f2] at e
  exact hne (txAdd_inj_n hpre hz' hz (fold_inj _ (fun y hy => hv y (List.mem_of_mem_drop hy)) (txAdd_ok hpre hz') (txAdd_ok hpre hz) e))
theorem txFold_snoc (zs : List Int) (n : Int) : txFold (zs ++ [n]) = txAdd (txFold zs) n := by simp [txFold, List.foldl_append]

theorem cTo_yes {x n : Int} (h1 : 0 ≤ x) (h2 : x ≤ 4095) (h3 : 0 ≤ n) (h4 : n ≤ 100000) : cTo x n = ((x + 4096 * n) * 48271 + 11) % 2147483647 := if_pos ⟨⟨h1, h2⟩, ⟨h3, h4⟩⟩
theorem cTo_no {x n : Int} (h : x < 0 ∨ 4095 < x ∨ n < 0 ∨ 100000 < n) : cTo x n = -1 := if_neg (by omega)
theorem cTo_range (x n : Int) : -1 ≤ cTo x n ∧ cTo x n ≤ 2147483646 := by unfold cTo; split <;> omega
theorem cTo_next_x {x n : Int} (h : 0 ≤ cTo x n) : cTo (x + 1) n ≠ cTo x n := by
  unfold cTo at h ⊢
  by_cases h1 : (0 ≤ x ∧ x ≤ 4095) ∧ (0 ≤ n ∧ n ≤ 100000)
  · rw [if_pos h1]
    split <;> omega
  · rw [if_neg h1] at h; omega
theorem cTo_next_n {x n : Int} (h : 0 ≤ cTo x n) : cTo x (n + 1) ≠ cTo x n := by
  unfold cTo at h ⊢
  by_cases h1 : (0 ≤ x ∧ x ≤ 4095) ∧ (0 ≤ n ∧ n ≤ 100000)
  · rw [if_pos h1]
    split <;> omega
  · rw [if_neg h1] at h; omega
theorem txAdd_next_n {t n : Int} (h : 0 ≤ txAdd t n) : txAdd t (n + 1) ≠ txAdd t n := by
  unfold txAdd at h ⊢
  by_cases h1 : (0 ≤ t ∧ t ≤ 2147483646) ∧ (0 ≤ n ∧ n ≤ 2147483646)
  · rw [if_pos h1]
    split <;> omega
  · rw [if_neg h1] at h; omega
theorem txAdd_next_t {t n : Int} (h : 0 ≤ txAdd t n) : txAdd (t + 1) n ≠ txAdd t n := by
  unfold txAdd at h ⊢
  by_cases h1 : (0 ≤ t ∧ t ≤ 2147483646) ∧ (0 ≤ n ∧ n ≤ 2147483646)
  · rw [if_pos h1]
    split <;> omega
  · rw [if_neg h1] at h; omega
end Go.Proofs.Ytjmchblfihnhjaa
