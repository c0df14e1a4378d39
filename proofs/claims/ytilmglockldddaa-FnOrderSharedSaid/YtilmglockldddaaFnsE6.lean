/- Contracts: folded matrices, the program's. (Printed by gen_E6.py.) -/
import Derived.Test.YtilmglockldddaaFnsE5
namespace Go.Proofs.Ytilmglockldddaa
open Go.RowKit

theorem nest3 (w : World) (r c r2 c2 : Int) (s s2 : Value) : ∀ W, W = ((w.alloc (.cells #[.int .i64 r, .int .i64 c, s] 33)).alloc (.cells #[.int .i64 r2, .int .i64 c2, s2] 33)).alloc (.cells #[.int .i64 0, .int .i64 0, .slice none 0 0] 33) →
    Cell3 W w.heap.size (.int .i64 r) (.int .i64 c) s ∧ Cell3 W (w.heap.size + 1) (.int .i64 r2) (.int .i64 c2) s2 ∧ Cell3 W (w.heap.size + 1 + 1) (.int .i64 0) (.int .i64 0) (.slice none 0 0) ∧ Below w.heap.size w W ∧ W.heap.size = w.heap.size + 3 := by
  rintro W rfl
  have a := Cell3.new w (.int .i64 r) (.int .i64 c) s 33
  have b := Cell3.new (w.alloc (.cells #[.int .i64 r, .int .i64 c, s] 33)) (.int .i64 r2) (.int .i64 c2) s2 33
  have d := Cell3.new ((w.alloc (.cells #[.int .i64 r, .int .i64 c, s] 33)).alloc (.cells #[.int .i64 r2, .int .i64 c2, s2] 33)) (.int .i64 0) (.int .i64 0) (.slice none 0 0) 33
  simp only [World.size_alloc] at b d
  exact ⟨(a.alloc _).alloc _, b.alloc _, d, (((Below.refl _ _).alloc (Nat.le_refl _) _).alloc (by simp) _).alloc (by simp; omega) _, by simp⟩
def OkF (r c : Int) (zs : List Int) (kr kc : Int) (ks : List Int) : Prop := OkM r c zs ∧ OkM kr kc ks ∧ kr ≤ r ∧ kc ≤ c
/-- The folded matrix, its first n values. -/
def foldTo (kr kc r c : Nat) (zs ks : List Int) (n : Nat) : List Int := (List.range ((r - kr + 1) * (c - kc + 1))).map fun p => if p < n then foldS kr kc c zs ks (p / (c - kc + 1)) (p % (c - kc + 1)) (kr * kc) % 4096 else 0
theorem foldTo_len (kr kc r c : Nat) (zs ks : List Int) (n : Nat) : (foldTo kr kc r c zs ks n).length = (r - kr + 1) * (c - kc + 1) := by simp [foldTo]
theorem foldTo_get (kr kc r c : Nat) (zs ks : List Int) (n p : Nat) (hp : p < (r - kr + 1) * (c - kc + 1)) : (foldTo kr kc r c zs ks n).getD p 0 = if p < n then foldS kr kc c zs ks (p / (c - kc + 1)) (p % (c - kc + 1)) (kr * kc) % 4096 else 0 := by simp [foldTo, hp]
theorem foldTo_zero (kr kc r c : Nat) (zs ks : List Int) : foldTo kr kc r c zs ks 0 = List.replicate ((r - kr + 1) * (c - kc + 1)) 0 := by
  apply ext_getM
  · simp [foldTo]
  · intro p hp
    rw [foldTo_len] at hp
    rw [foldTo_get _ _ _ _ _ _ _ _ hp, if_neg (by omega)]
    simp [List.getD_eq_getElem?_getD, hp]
theorem foldTo_full (kr kc r c : Nat) (zs ks : List Int) : foldTo kr kc r c zs ks ((r - kr + 1) * (c - kc + 1)) = foldZ kr kc r c zs ks := by
  apply ext_getM
  · rw [foldTo_len, foldZ, tab_len]
  · intro p hp
    rw [foldTo_len] at hp
    rw [foldTo_get _ _ _ _ _ _ _ _ hp, if_pos hp, foldZ, tab_get _ _ _ _ hp]
theorem foldTo_succ (kr kc r c : Nat) (zs ks : List Int) (n a b : Nat) (hn : n = a * (c - kc + 1) + b) (hb : b < c - kc + 1) : (foldTo kr kc r c zs ks n).set n (foldS kr kc c zs ks a b (kr * kc) % 4096) = foldTo kr kc r c zs ks (n + 1) := by
  apply ext_getM
  · rw [List.length_set, foldTo_len, foldTo_len]
  · intro p hp
    rw [List.length_set, foldTo_len] at hp
    rw [getM_set, foldTo_len, foldTo_get _ _ _ _ _ _ _ _ hp, foldTo_get _ _ _ _ _ _ _ _ hp]
    by_cases e : n = p
    · subst e
      rw [if_pos ⟨rfl, hp⟩, if_pos (by omega), hn, ix_div hb, ix_mod hb]
    · rw [if_neg (fun h => e h.1)]
      by_cases h : p < n
      · rw [if_pos h, if_pos (by omega)]
      · rw [if_neg h, if_neg (by omega)]
end Go.Proofs.Ytilmglockldddaa
