/- Contracts: the library's greatest number of a list, and a list repeated. -/
import Derived.Test.YtfkccdmjlopleaaAppC
import Derived.Test.YtfkccdmjlopleaaPlainC4
import Derived.Deep.RegionLaw
namespace Go.Proofs.Ytfkccdmjlopleaa
open Go.RowKit

def repT (m : Int) (n k : Nat) : List Int := List.replicate k m ++ List.replicate (n - k) 0
theorem repT_len (m : Int) (n k : Nat) (h : k ≤ n) : (repT m n k).length = n := by simp [repT]; omega
theorem repT_at (m : Int) (n k j : Nat) (h : j < k) : (repT m n k).getD j 0 = m := by
  simp [repT, List.getD_eq_getElem?_getD, List.getElem?_append, h]
theorem repT_zero (m : Int) (n : Nat) : repT m n 0 = List.replicate n 0 := by simp [repT]
theorem repT_full (m : Int) (n : Nat) : repT m n n = List.replicate n m := by simp [repT]
theorem repT_splice (m : Int) (n k c : Nat) (h : k + c ≤ n) : splice (repT m n k) k (List.replicate c m) = repT m n (k + c) := by
  unfold splice repT
  rw [List.take_append_of_le_length (by simp), List.take_of_length_le (by simp), List.drop_append, List.drop_eq_nil_of_le (by simp), List.nil_append, List.length_replicate, List.length_replicate, List.drop_replicate, ← List.append_assoc, List.replicate_append_replicate]
  congr 2
  omega
theorem wpList_copyM {w : World} {ops : Array Oper} {rest : List Oper} {o : Oper} {a : Act} {Q : Exit → Act → World → Prop} (hgd : o.guard = none) (d s : Operand)
    (ho : o.op = .call { callee := .builtin .copy, args := #[d, s], argTypes := #[29, 29] })
    (lo hi g off n c dl dc sl sc m : Nat) (ys xs : List Int) (ad : Addr) (hd : a.eval d = .slice (some ⟨g, off, none⟩) dl dc) (hs : a.eval s = .slice (some ad) sl sc)
    (hrow : Row w lo hi (.slice (some ⟨g, 0, none⟩) n c) ys) (hx : xs.length = m) (hsrc : ∀ j, j < m → w.cell? (ad.add j) = some (.int .i64 (xs.getD j 0))) (hm : m = Nat.min sl dl) (hfit : off + m ≤ ys.length)
    (h : ∀ w', Row w' lo hi (.slice (some ⟨g, 0, none⟩) n c) (splice ys off xs) → w.grownBy w' (some g) → wpList Try.prog ops Q rest (a.put o.dst (goInt m)) w') : wpList Try.prog ops Q (o :: rest) a w :=
  wpList_plain hgd fun K hK => wp_copyM d s ho lo hi g off n c dl dc sl sc m ys xs ad hd hs hrow hx hsrc hm hfit fun w' h1 h2 => hK _ _ (h w' h1 h2)

set_option maxHeartbeats 800000 in
theorem max_any (A : Option Addr) (c B : Nat) (xs : List Int) (w : World) (hs : Sl w B A xs) (h0 : 0 < xs.length) (hn : xs.length ≤ 2000000) (hp : 0 ≤ xs.getD 0 0) :
    Calls Try.prog 39 #[.slice A xs.length c] w fun e w' => e = .returned (.int .i64 (maxTo xs xs.length)) ∧ w = w' := by
  have HS := Lib.hid hs
  have H1 := Lib.hid (show maxTo xs 1 = xs.getD 0 0 by rw [maxTo_succ _ _ h0, maxTo_zero]; omega)
  have HSU := Lib.hid (fun k hk => maxTo_succ xs k hk)
  obtain ⟨b, off, rfl, hb, hc⟩ := hs.at_ h0
  rw [Nat.add_zero] at hc
  obtain ⟨x0, hx0⟩ : ∃ x0, xs.getD 0 0 = x0 := ⟨_, rfl⟩
  rw [hx0] at hc H1
  clear hs hx0 hp
  go_enter Try.func39, Try.ntmps39
  go_wp2
  go_loop [3, 4] (fun r i => ∃ k : Nat, 1 ≤ k ∧ k ≤ xs.length ∧ i = .int .i64 k ∧ r = .int .i64 (maxTo xs k)) (fun _ i => xs.length - (intOf i).toNat)
  case atStart => exact ⟨1, Nat.le_refl _, h0, rfl, by rw [H1.out]⟩
  case round =>
    obtain ⟨k, hk1, hk, rfl, rfl⟩ := hrel
    by_cases hlt : k < xs.length
    · obtain ⟨b2, off2, hA, hb2, hc2⟩ := HS.out.at_ hlt
      cases hA
      have HN := Lib.hid (HSU.out k hlt)
      obtain ⟨z, hz⟩ : ∃ z, xs.getD k 0 = z := ⟨_, rfl⟩
      rw [hz] at hc2 HN
      obtain ⟨q, hq⟩ : ∃ q, maxTo xs k = q := ⟨_, rfl⟩
      rw [hq] at HN ⊢
      clear hz hq
      go_wp2
      go_round
      case rel => exact ⟨k + 1, by omega, by omega, by go_num, by rw [HN.out]; congr 1; split <;> omega⟩
      case measure => simp [intOf]; omega
    · have e : k = xs.length := by omega
      subst e
      obtain ⟨q, hq⟩ : ∃ q, maxTo xs xs.length = q := ⟨_, rfl⟩
      rw [hq]
      have HQ := Lib.hid hq
      clear hq
      go_wp2
      go_ret
      exact ⟨by rw [HQ.out]; rfl, rfl⟩

set_option maxHeartbeats 1600000 in
theorem mul64_small (n : Nat) (h1 : 1 ≤ n) (h2 : n ≤ 12) (w : World) : Calls Try.prog 46 #[.int .u64 1, .int .u64 n] w fun e w' => e = .returned (.tuple #[.int .u64 0, .int .u64 n]) ∧ w = w' := by
  obtain rfl | rfl | rfl | rfl | rfl | rfl | rfl | rfl | rfl | rfl | rfl | rfl : n = 1 ∨ n = 2 ∨ n = 3 ∨ n = 4 ∨ n = 5 ∨ n = 6 ∨ n = 7 ∨ n = 8 ∨ n = 9 ∨ n = 10 ∨ n = 11 ∨ n = 12 := by omega
  all_goals (
    clear h1 h2
    go_enter Try.func46, Try.ntmps46
    go_wp2
    go_ret2
    exact ⟨rfl, rfl⟩)
theorem mul_small (n : Nat) (h1 : 1 ≤ n) (h2 : n ≤ 12) (w : World) : Calls Try.prog 43 #[.int .u64 1, .int .u64 n] w fun e w' => e = .returned (.tuple #[.int .u64 0, .int .u64 n]) ∧ w = w' := by
  go_enter Try.func43, Try.ntmps43
  go_wp2_with fail
  refine (mul64_small n h1 h2 w).mono ?_
  rintro e w' ⟨rfl, rfl⟩
  go_wp2
  go_ret2
  exact ⟨rfl, rfl⟩
end Go.Proofs.Ytfkccdmjlopleaa
