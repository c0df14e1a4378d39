/- Contracts without cases: means, ranges, centered lists, steps, errors. (Printed by gen_LawB.py.) -/
import Derived.Test.YtdmgaemplhcfmaaFnsB5
namespace Go.Proofs.Ytdmgaemplhcfmaa
open Go.RowKit
open Classical in
noncomputable def meanP (zs : List Int) : Int × Bool := if OkL zs then (meanV zs, true) else (0, false)
open Classical in
noncomputable def rangeP (zs : List Int) : Int := if OkL zs then rangeV zs else -1
open Classical in
noncomputable def centerP (zs : List Int) : List Int := if OkL zs then zs.map (fun z => z - meanV zs) else []
open Classical in
noncomputable def stepP (s : Int) (zs : List Int) : List Int := if OkS zs s then zs.map (stepF s) else []
open Classical in
noncomputable def unstepP (s : Int) (zs : List Int) : List Int := if OkS zs s then zs.map (unstepF s) else []
open Classical in
noncomputable def errP (s : Int) (zs : List Int) : Int := if OkS zs s then errV s zs else -1

section
variable (A : Option Addr) (c : Nat) (zs : List Int) (w : World) (hs : Sl w w.heap.size A zs) (hn : zs.length ≤ 4611686018427387904)
include hs hn
theorem implMean_any : Calls Try.prog 17 #[.slice A zs.length c] w fun e w' => e = .returned (.tuple #[.int .i64 (meanP zs).1, .bool (meanP zs).2]) ∧ w = w' := by
  unfold meanP
  split
  · rename_i h
    exact implMean_yes A c _ zs w hs hn h
  · rename_i h
    exact implMean_no A c _ zs w hs hn h
theorem implRange_any : Calls Try.prog 27 #[.slice A zs.length c] w fun e w' => e = .returned (.int .i64 (rangeP zs)) ∧ w = w' := by
  unfold rangeP
  split
  · rename_i h
    exact implRange_yes A c _ zs w hs hn h
  · rename_i h
    exact implRange_no A c _ zs w hs hn h
theorem implErr_any (s : Int) : Calls Try.prog 37 #[.slice A zs.length c, .int .i64 s] w fun e w' => e = .returned (.int .i64 (errP s zs)) ∧ Below w.heap.size w w' := by
  unfold errP
  split
  · rename_i h
    exact implErr_yes A c s zs w hs hn h
  · rename_i h
    exact (implErr_no A c s zs w hs hn h).mono fun e w' ⟨h1, h2⟩ => ⟨h1, h2 ▸ Below.refl _ _⟩
theorem implCenter_any : Calls Try.prog 22 #[.slice A zs.length c] w fun e w' => ∃ v, e = .returned v ∧ Row w' w.heap.size w'.heap.size v (centerP zs) ∧ Below w.heap.size w w' := by
  unfold centerP
  split
  · rename_i h
    exact implCenter_yes A c zs w hs hn h
  · rename_i h
    exact (implCenter_no A c zs w hs hn h).mono fun e w' ⟨h1, h2⟩ => ⟨_, h1, Row.nil_ _ _ _, h2 ▸ Below.refl _ _⟩
theorem implStep_any (s : Int) : Calls Try.prog 31 #[.slice A zs.length c, .int .i64 s] w fun e w' => ∃ v, e = .returned v ∧ Row w' w.heap.size w'.heap.size v (stepP s zs) ∧ Below w.heap.size w w' := by
  unfold stepP
  split
  · rename_i h
    exact implStep_yes A c s zs w hs hn h
  · rename_i h
    exact (implStep_no A c s zs w hs hn h).mono fun e w' ⟨h1, h2⟩ => ⟨_, h1, Row.nil_ _ _ _, h2 ▸ Below.refl _ _⟩
theorem implUnstep_any (s : Int) : Calls Try.prog 33 #[.slice A zs.length c, .int .i64 s] w fun e w' => ∃ v, e = .returned v ∧ Row w' w.heap.size w'.heap.size v (unstepP s zs) ∧ Below w.heap.size w w' := by
  unfold unstepP
  split
  · rename_i h
    exact implUnstep_yes A c s zs w hs hn h
  · rename_i h
    exact (implUnstep_no A c s zs w hs hn h).mono fun e w' ⟨h1, h2⟩ => ⟨_, h1, Row.nil_ _ _ _, h2 ▸ Below.refl _ _⟩
theorem specMean_any : Calls Try.prog 15 #[.slice A zs.length c] w fun e w' => e = .returned (.tuple #[.int .i64 (meanP zs).1, .bool (meanP zs).2]) ∧ w = w' := by
  unfold meanP
  split
  · rename_i h
    exact specMean_yes A c _ zs w hs hn h
  · rename_i h
    exact specMean_no A c _ zs w hs hn h
theorem specRange_any : Calls Try.prog 28 #[.slice A zs.length c] w fun e w' => e = .returned (.int .i64 (rangeP zs)) ∧ w = w' := by
  unfold rangeP
  split
  · rename_i h
    exact specRange_yes A c _ zs w hs hn h
  · rename_i h
    exact specRange_no A c _ zs w hs hn h
theorem specErr_any (s : Int) : Calls Try.prog 36 #[.slice A zs.length c, .int .i64 s] w fun e w' => e = .returned (.int .i64 (errP s zs)) ∧ Below w.heap.size w w' := by
  unfold errP
  split
  · rename_i h
    exact specErr_yes A c s zs w hs hn h
  · rename_i h
    exact (specErr_no A c s zs w hs hn h).mono fun e w' ⟨h1, h2⟩ => ⟨h1, h2 ▸ Below.refl _ _⟩
theorem specCenter_any : Calls Try.prog 21 #[.slice A zs.length c] w fun e w' => ∃ v, e = .returned v ∧ Row w' w.heap.size w'.heap.size v (centerP zs) ∧ Below w.heap.size w w' := by
  unfold centerP
  split
  · rename_i h
    exact specCenter_yes A c zs w hs hn h
  · rename_i h
    exact specCenter_no A c zs w hs hn h
theorem specStep_any (s : Int) : Calls Try.prog 30 #[.slice A zs.length c, .int .i64 s] w fun e w' => ∃ v, e = .returned v ∧ Row w' w.heap.size w'.heap.size v (stepP s zs) ∧ Below w.heap.size w w' := by
  unfold stepP
  split
  · rename_i h
    exact specStep_yes A c s zs w hs hn h
  · rename_i h
    exact specStep_no A c s zs w hs hn h
theorem specUnstep_any (s : Int) : Calls Try.prog 34 #[.slice A zs.length c, .int .i64 s] w fun e w' => ∃ v, e = .returned v ∧ Row w' w.heap.size w'.heap.size v (unstepP s zs) ∧ Below w.heap.size w w' := by
  unfold unstepP
  split
  · rename_i h
    exact specUnstep_yes A c s zs w hs hn h
  · rename_i h
    exact specUnstep_no A c s zs w hs hn h
end
end Go.Proofs.Ytdmgaemplhcfmaa
