/- Contracts: the library's walk from the last one down. -/
import Derived.Test.YtfkccdmjlopleaaRangeCt
import Derived.Test.YtfkccdmjlopleaaFnsC4
import Derived.Lib.JoinLaws
namespace Go.Proofs.Ytfkccdmjlopleaa
open Go.RowKit Go.Shelf

attribute [local go_sem] Oper.semAt_some

theorem backward_any (A : Option Addr) (len cap : Nat) (w : World) : Calls Try.prog 40 #[.slice A len cap] w fun e w' => e = .returned (.func (.func 44) #[] #[.pointer (some ⟨w.heap.size, 0, none⟩)]) ∧ w' = w.alloc (.cells #[.slice A len cap] 22) := by
  have hmf : ∀ (fn : Fn) (first cap : Array Value) (w : World), (Instr.makeFunc fn first cap).run Try.prog w = .ok (.func fn first cap) w := fun _ _ _ _ => rfl
  go_enter Try.func40, Try.ntmps40
  go_wp2
  go_ret
  exact ⟨rfl, rfl⟩
/-- The box holds the list, its headers are hd. -/
def BoxAt (Bs b off N c : Nat) (hd : Nat → Value) (A : World) : Prop :=
  A.cell? ⟨Bs, 0, none⟩ = some (.slice (some ⟨b, off, none⟩) N c) ∧ ∀ j, j < N → A.cell? ⟨b, off + j, none⟩ = some (hd j)
set_option maxRecDepth 100000 in
set_option maxHeartbeats 2000000 in
theorem backward_counted (Bs b off N c n : Nat) (hd : Nat → Value) (hN : N ≤ 12) (hn : 1 ≤ n) :
    Counted Fence.wide n Try.prog 44 #[.pointer (some ⟨Bs, 0, none⟩)] (fun k => #[.int .i64 ((N - 1 - k : Nat) : Int), hd (N - 1 - k)]) N (BoxAt Bs b off N c hd) := fun l J Jx W hJ hY h0 => by
  have HJ := Lib.hid hJ
  have HY := Lib.hid hY
  obtain ⟨c0, _⟩ := hJ 0 W h0
  have H0 := Lib.hid h0
  clear hJ hY h0
  refine callsIn_of_wp Try.func44 rfl trivial ?_ rfl
  simp only [Try.ntmps44, List.size_toArray, List.length_cons, List.length_nil, Nat.reduceAdd, Nat.reduceSub, Array.replicate_succ, Array.replicate_zero, List.push_toArray, List.append_toArray, List.nil_append, List.cons_append]
  gi_wp2
  gi_loopw [3] (fun i wr => ∃ k : Nat, k ≤ N ∧ i = .int .i64 ((N : Int) - 1 - k) ∧ J k wr) (fun i _ => (intOf i + 1).toNat)
  case atStart => exact ⟨0, Nat.zero_le _, by congr 1; omega, H0.out⟩
  case round =>
    obtain ⟨k, hkN, rfl, hJk⟩ := hrel
    clear c0
    obtain ⟨c1, ch⟩ := HJ.out k wr hJk
    by_cases hlt : k < N
    · obtain ⟨fn, tmps, assign, body, hy, hR⟩ := HY.out k wr hlt hJk
      obtain ⟨m, hm⟩ : ∃ m, m = N - 1 - k := ⟨_, rfl⟩
      have hv : (N : Int) - 1 - k = (m : Int) := by omega
      rw [hv]
      rw [← hm] at hy
      have hmN : m < N := by omega
      have hmi : (m : Int) < (N : Int) := by omega
      have hm0 : (0 : Int) ≤ (m : Int) := by omega
      have cm := ch m hmN
      obtain ⟨u, hu⟩ : ∃ u, hd m = u := ⟨_, rfl⟩
      rw [hu] at hy cm
      have HM := Lib.hid hm
      clear hu hm hv hJk ch
      (try dsimp only at hy)
      gi_wp2
      refine hR.mono ?_
      rintro e W3 (⟨rfl, hM3⟩ | ⟨rfl, hx3⟩)
      · gi_wp2
        go_roundw
        case rel => exact ⟨k + 1, by omega, by rw [show (N : Int) - 1 - ((k + 1 : Nat) : Int) = (m : Int) - 1 by have := HM.out; omega], hM3⟩
        case measure => simp [intOf] <;> omega
      · gi_wp2
        refine bodyPost_ret (results_none rfl _ _ _) rfl ?_
        exact ⟨⟨_, rfl⟩, .inr hx3⟩
    · obtain rfl : k = N := by omega
      have hv : (k : Int) - 1 - k = -1 := by omega
      rw [hv]
      clear ch
      gi_wp2
      go_end0
      exact ⟨⟨_, rfl⟩, .inl hJk⟩
end Go.Proofs.Ytfkccdmjlopleaa
