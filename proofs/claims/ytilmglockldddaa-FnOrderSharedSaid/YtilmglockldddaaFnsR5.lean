/- Contracts: random numbers, lists and matrices, the program's: an endless stream behind a range over a function. -/
import Derived.Test.YtilmglockldddaaRangeIx
import Derived.Test.YtilmglockldddaaFnsR1
import Derived.Test.YtilmglockldddaaFnsE5
namespace Go.Proofs.Ytilmglockldddaa
open Go.RowKit Go.Shelf

attribute [local go_sem] Oper.semAt_some

theorem seedValid_yes (s : Int) (w : World) (h1 : 1 ≤ s) (h2 : s ≤ 2147483646) : Calls Try.prog 58 #[.int .i64 s] w fun e w' => e = .returned (.bool true) ∧ w = w' := by
  go_enter Try.func58, Try.ntmps58
  go_wp2
  go_ret
  exact ⟨rfl, rfl⟩
theorem seedValid_no (s : Int) (w : World) (h : s < 1 ∨ 2147483646 < s) : Calls Try.prog 58 #[.int .i64 s] w fun e w' => e = .returned (.bool false) ∧ w = w' := by
  rcases h with h | h
  · go_enter Try.func58, Try.ntmps58
    go_wp2
    go_ret
    exact ⟨rfl, rfl⟩
  · have h1 : 1 ≤ s := by omega
    have h2 : decide (s ≤ 2147483646) = false := by simp; omega
    go_enter Try.func58, Try.ntmps58
    go_wp2
    go_ret
    exact ⟨rfl, rfl⟩
theorem nextRandom_yes (s : Int) (w : World) (h : 1 ≤ s ∧ s ≤ 2147483646) : Calls Try.prog 82 #[.int .i64 s] w fun e w' => e = .returned (.tuple #[.int .i64 (rNum (rNx s)), .int .i64 (rNx s)]) ∧ w = w' := by
  obtain ⟨h1, h2⟩ := h
  have hn := rNx_rng ⟨h1, h2⟩
  have he : 48271 * s % 2147483647 = rNx s := by unfold rNx; rw [Int.mul_comm]
  have hr : rNx s / 8 % 4096 = rNum (rNx s) := rfl
  obtain ⟨x, hx⟩ : ∃ x, rNx s = x := ⟨_, rfl⟩
  rw [hx] at hn he hr ⊢
  obtain ⟨y, hy⟩ : ∃ y, rNum x = y := ⟨_, rfl⟩
  rw [hy] at hr ⊢
  have h8 : 0 ≤ x / 8 := by omega
  clear hx hy
  go_enter Try.func82, Try.ntmps82
  go_wp2_with fail
  refine (seedValid_yes s w h1 h2).mono ?_
  rintro e w' ⟨rfl, rfl⟩
  go_wp2_with fail
  refine (implRing _ _).mono ?_
  rintro e w' ⟨rfl, rfl⟩
  go_wp2
  go_ret2
  first | exact ⟨rfl, rfl⟩ | exact ⟨by simp [hr], rfl⟩
theorem stream_any (s : Int) (w : World) : Calls Try.prog 79 #[.int .i64 s] w fun e w' => e = .returned (.func (.func 81) #[] #[.pointer (some ⟨w.heap.size, 0, none⟩)]) ∧ w' = w.alloc (.cells #[.int .i64 s] 3) := by
  have hmf : ∀ (fn : Fn) (first cap : Array Value) (w : World), (Instr.makeFunc fn first cap).run Try.prog w = .ok (.func fn first cap) w := fun _ _ _ _ => rfl
  go_enter Try.func79, Try.ntmps79
  go_wp2
  go_ret
  exact ⟨rfl, rfl⟩
theorem exists_top (p : Nat → Prop) (N : Nat) (h : ∃ k, k ≤ N ∧ p k) : ∃ m, m ≤ N ∧ p m ∧ ∀ k, k ≤ N → p k → k ≤ m := by
  induction N with
  | zero =>
    obtain ⟨k, hk, hp⟩ := h
    obtain rfl : k = 0 := by omega
    exact ⟨0, Nat.le_refl _, hp, fun j hj _ => hj⟩
  | succ N ih =>
    by_cases ht : p (N + 1)
    · exact ⟨N + 1, Nat.le_refl _, ht, fun j hj _ => hj⟩
    · obtain ⟨k, hk, hp⟩ := h
      have hk' : k ≤ N := by
        rcases Nat.lt_or_ge N k with h1 | h1
        · obtain rfl : k = N + 1 := by omega
          exact absurd hp ht
        · exact h1
      obtain ⟨m, hm, hpm, htop⟩ := ih ⟨k, hk', hp⟩
      refine ⟨m, by omega, hpm, fun j hj hpj => ?_⟩
      rcases Nat.lt_or_ge N j with h1 | h1
      · obtain rfl : j = N + 1 := by omega
        exact absurd hpj ht
      · exact htop j h1 hpj
open Classical in
/-- The greatest number of rounds that the world may stand for. -/
noncomputable def topK (J : Nat → World → Prop) (N : Nat) (A : World) : Nat := if h : ∃ k, k ≤ N ∧ J k A then Classical.choose (exists_top (fun k => J k A) N h) else 0
theorem topK_spec {J : Nat → World → Prop} {N : Nat} {A : World} (h : ∃ k, k ≤ N ∧ J k A) : topK J N A ≤ N ∧ J (topK J N A) A ∧ ∀ k, k ≤ N → J k A → k ≤ topK J N A := by
  unfold topK
  rw [dif_pos h]
  exact Classical.choose_spec (exists_top (fun k => J k A) N h)
/-- The stream's cell where k rounds are over. -/
def SeedAt (s : Int) (b k : Nat) (A : World) : Prop := A.cell? ⟨b, 0, none⟩ = some (.int .i64 (rSd s k)) ∧ A.frozen? ⟨b, 0, none⟩ = false
set_option maxRecDepth 100000 in
set_option maxHeartbeats 2000000 in
theorem stream_endless (s : Int) (hs : 1 ≤ s ∧ s ≤ 2147483646) (b N n : Nat) (hn : 1 ≤ n) :
    Endless Fence.wide n Try.prog 81 #[.pointer (some ⟨b, 0, none⟩)] (fun k => #[.int .i64 (rNum (rSd s (k + 1))), .int .i64 (rSd s (k + 1))]) N (SeedAt s b) (SeedAt s b)
      (fun k A B => B = A.setCell ⟨b, 0, none⟩ (.int .i64 (rSd s (k + 1)))) := fun l J M Jx W hJ hM hMv hY h0 => by
  have HS := Lib.hid fun k => rSd_rng hs k
  have HN := Lib.hid fun k => show rNx (rSd s k) = rSd s (k + 1) from rfl
  have HJ := Lib.hid hJ
  have HM := Lib.hid hM
  have HMv := Lib.hid hMv
  have HY := Lib.hid hY
  clear hJ hM hMv hY hs
  refine callsIn_of_wp Try.func81 rfl trivial ?_ rfl
  simp only [Try.ntmps81, List.size_toArray, List.length_cons, List.length_nil, Nat.reduceAdd, Nat.reduceSub, Array.replicate_succ, Array.replicate_zero, List.push_toArray, List.append_toArray, List.nil_append, List.cons_append]
  gi_wp2
  gi_loopw [3, 4] (fun _ _ wr => ∃ k : Nat, k ≤ N ∧ J k wr) (fun _ _ wr => N - topK J N wr)
  case atStart => exact ⟨0, Nat.zero_le _, h0⟩
  case round =>
    have ht := topK_spec hrel
    obtain ⟨k, hk⟩ : ∃ k, topK J N wr = k := ⟨_, rfl⟩
    rw [hk] at ht
    obtain ⟨hkN, hJk, _⟩ := ht
    have HK := Lib.hid hk
    clear hk hrel
    obtain ⟨c0, f0⟩ := HJ.out k wr hJk
    have hq := HS.out k
    have hnr := Lib.hid (nextRandom_yes (rSd s k) wr hq)
    rw [HN.out k] at hnr
    obtain ⟨fn, tmps, assign, body, hy, hR⟩ := HY.out k wr hJk
    have HMk := Lib.hid (HM.out k)
    have HMvk := Lib.hid (HMv.out k)
    unfold SeedAt at HMk
    obtain ⟨q0, hq0⟩ : ∃ q, rSd s k = q := ⟨_, rfl⟩
    obtain ⟨q1, hq1⟩ : ∃ q, rSd s (k + 1) = q := ⟨_, rfl⟩
    rw [hq0] at c0 hnr HMk
    rw [hq1] at hnr hy HMvk
    obtain ⟨v1, hv1⟩ : ∃ v, rNum q1 = v := ⟨_, rfl⟩
    rw [hv1] at hnr hy
    clear hq0 hq1 hv1 hJk hq
    (try dsimp only at hy)
    gi_wp2_with (refine ⟨trivial, ?_⟩; gi_at_call 82; refine (callsIn_wide.2 hnr.out).mono ?_; rintro e w' ⟨rfl, rfl⟩)
    refine hR.mono ?_
    rintro e W3 (⟨rfl, hM3, hk3⟩ | ⟨rfl, hx3⟩)
    · obtain ⟨c3, f3⟩ := HMk.out W3 hM3
      gi_wp2
      have hJ4 := HMvk.out W3 _ hM3 rfl
      go_roundw
      case rel => exact ⟨k + 1, by omega, hJ4⟩
      case measure =>
        have h4 := (topK_spec ⟨k + 1, show k + 1 ≤ N by omega, hJ4⟩).2.2 (k + 1) (by omega) hJ4
        have h5 := HK.out
        omega
    · gi_wp2
      refine bodyPost_ret (results_none rfl _ _ _) rfl ?_
      exact ⟨⟨_, rfl⟩, hx3⟩
end Go.Proofs.Ytilmglockldddaa
