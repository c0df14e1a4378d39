/- Contracts: random lists and matrices, the reference's. -/
import Derived.Test.YtilmglockldddaaPlainR
import Derived.Test.YtilmglockldddaaApp1
namespace Go.Proofs.Ytilmglockldddaa
open Go.RowKit

theorem mat_ret0 {w X : World} {b lo : Nat} {x y u r c s : Value} {zs : List Int} (hb : w.heap.size ≤ b) (K0 : Cell3 X b x y u) (row : Row X lo X.heap.size s zs) (hlo : b < lo) (hB : Below w.heap.size w X) :
    Cell3 (((X.setCell ⟨b, 0, none⟩ r).setCell ⟨b, 1, none⟩ c).setCell ⟨b, 2, none⟩ s) b r c s ∧
    Row (((X.setCell ⟨b, 0, none⟩ r).setCell ⟨b, 1, none⟩ c).setCell ⟨b, 2, none⟩ s) lo (((X.setCell ⟨b, 0, none⟩ r).setCell ⟨b, 1, none⟩ c).setCell ⟨b, 2, none⟩ s).heap.size s zs ∧
    Below w.heap.size w (((X.setCell ⟨b, 0, none⟩ r).setCell ⟨b, 1, none⟩ c).setCell ⟨b, 2, none⟩ s) := by
  refine ⟨((K0.set0 r).set1 c).set2 s, ?_, ?_⟩
  · exact (((row.grown (set_grown X b 0 r) (fun g e => by cases e; left; omega)).grown (set_grown _ b 1 c) (fun g e => by cases e; left; omega)).grown (set_grown _ b 2 s) (fun g e => by cases e; left; omega)).wider (Nat.le_refl _) (by simp)
  · exact ((hB.setCell (p := ⟨b, 0, none⟩) hb r).setCell (p := ⟨b, 1, none⟩) hb c).setCell (p := ⟨b, 2, none⟩) hb s
theorem l4Next_any (s : Int) (w : World) (hs : 1 ≤ s ∧ s ≤ 2147483646) : Calls Try.prog 78 #[.int .i64 s] w fun e w' => e = .returned (.int .i64 (rNx s)) ∧ w = w' := by
  unfold rNx
  obtain ⟨h1, h2⟩ := hs
  go_enter Try.func78, Try.ntmps78
  go_wp2
  go_ret
  exact ⟨rfl, rfl⟩
set_option maxHeartbeats 800000 in
theorem l4List_any (s : Int) (n : Nat) (w : World) (hs : 1 ≤ s ∧ s ≤ 2147483646) (hn : n ≤ 1000000) :
    Calls Try.prog 70 #[.int .i64 s, .int .i64 n] w fun e w' => ∃ v, e = .returned (.tuple #[v, .int .i64 (rSd s n)]) ∧ Row w' w.heap.size w'.heap.size v (rLs s n) ∧ Below w.heap.size w w' := by
  have hown0 : Row (w.alloc (.cells #[] 3)) w.heap.size (w.heap.size + 1) (.slice (some ⟨w.heap.size, 0, none⟩) 0 0) [] := ⟨World.ownsRow_lit w #[] 0 (Nat.le_refl _) (by simp [maxLen]) rfl, fun g hg => by simp [Value.ownBlock] at hg; omega⟩
  have hb0 : Below w.heap.size w (w.alloc (.cells #[] 3)) := (Below.refl _ _).alloc (Nat.le_refl _) _
  have HS := Lib.hid fun k => rSd_rng hs k
  have HN := Lib.hid fun k => show rNx (rSd s k) = rSd s (k + 1) from rfl
  have HL := Lib.hid fun k => rLs_succ s k
  have HLL := Lib.hid fun k => rLs_len s k
  have H0 := Lib.hid (show rSd s 0 = s from rfl)
  have HL0 := Lib.hid (rLs_zero s)
  obtain ⟨D, hD⟩ : ∃ D, rSd s = D := ⟨_, rfl⟩
  obtain ⟨T, hT⟩ : ∃ T, rLs s = T := ⟨_, rfl⟩
  rw [hD] at HS HN HL H0 ⊢
  rw [hT] at HL HLL HL0 ⊢
  clear hD hT hs
  go_enter Try.func70, Try.ntmps70
  go_wp2
  go_loopw [0, 6, 7] (fun q v i wr => ∃ k : Nat, k ≤ n ∧ i = .int .i64 k ∧ q = .int .i64 (D k) ∧ Row wr w.heap.size wr.heap.size v (T k) ∧ Below w.heap.size w wr) (fun _ _ i _ => n - (intOf i).toNat)
  case atStart => exact ⟨0, Nat.zero_le _, rfl, by rw [H0.out], by rw [HL0.out]; exact hown0.wider (Nat.le_refl _) (by simp), hb0⟩
  case round =>
    obtain ⟨k, hk, rfl, rfl, hown, hnx⟩ := hrel
    clear hown0 hb0
    by_cases hlt : k < n
    · have hq := HS.out k
      have hq1 := HS.out (k + 1)
      have HT := Lib.hid (HL.out k)
      have hlen := HLL.out k
      have hsc := Lib.hid (l4Next_any (D k) wr hq)
      rw [HN.out k] at hsc
      have HQ := Lib.hid (HN.out k)
      obtain ⟨q0, hq0⟩ : ∃ q0, D k = q0 := ⟨_, rfl⟩
      obtain ⟨q1, hq1e⟩ : ∃ q1, D (k + 1) = q1 := ⟨_, rfl⟩
      rw [hq0] at hsc hq
      rw [hq1e] at hsc hq1 HT
      have HQ1 := Lib.hid hq1e
      simp only [hq0]
      obtain ⟨ys, hys⟩ : ∃ ys, T k = ys := ⟨_, rfl⟩
      rw [hys] at HT hown hlen
      clear hys hq0 hq1e HQ
      have hsz := hnx.size
      have h8 : 0 ≤ q1 / 8 := by omega
      have hlow := Lib.hid (fun g' (hg' : u6.ownBlock = some g') => hown.block_lt g' hg')
      have hal := (World.grownBy_alloc wr (.cells #[.int .i64 (q1 / 8 % 4096)] 3) none)
      have hownA := (hown.grown hal (fun g e => by cases e)).wider (Nat.le_refl _) (hi' := wr.heap.size + 1) (by omega)
      clear hown
      go_wp2_with fail
      refine hsc.out.mono ?_
      rintro e w' ⟨rfl, rfl⟩
      clear hsc
      go_wp2_with (at_builtin; go_loud (refine wpList_app1 rfl (.tmp 16) (.tmp 20) rfl w.heap.size (wr.heap.size + 1) u6 ys rfl hownA wr.heap.size (q1 / 8 % 4096) rfl (World.cell?_alloc_at _ _ _ _ rfl) (by omega) (by simp; omega) ?_); intro v' w3 hown3 hgrow3)
      go_roundw
      case rel =>
        refine ⟨k + 1, by omega, by go_num, by rw [HQ1.out], ?_, ?_⟩
        · rw [HT.out]
          exact hown3
        · exact (hnx.alloc hsz _).grown hgrow3 (by simp; omega) (fun g e => (hlow.out g e).1)
      case measure => simp [intOf]; omega
    · have e : k = n := by omega
      subst e
      go_wp2
      go_ret2
      exact ⟨_, rfl, hown, hnx⟩
set_option maxHeartbeats 800000 in
theorem specRM_yes (r c s : Int) (P : Nat) (w : World) (hr : 1 ≤ r ∧ r ≤ 5) (hc : 1 ≤ c ∧ c ≤ 5) (hs : 1 ≤ s ∧ s ≤ 2147483646) (hP : r * c = (P : Int)) (hP2 : P ≤ 25) :
    Calls Try.prog 55 #[.int .i64 r, .int .i64 c, .int .i64 s] w fun e w' => ∃ v, e = .returned (.tuple #[matV r c v, .int .i64 (rSd s P)]) ∧ Row w' w.heap.size w'.heap.size v (rLs s P) ∧ Below w.heap.size w w' := by
  have k0 := Cell3.new w (.int .i64 0) (.int .i64 0) (.slice none 0 0) 33
  have hb0 := (Below.refl w.heap.size w).alloc (Nat.le_refl _) (.cells #[.int .i64 0, .int .i64 0, .slice none 0 0] 33)
  obtain ⟨W, hW⟩ : ∃ W, w.alloc (.cells #[.int .i64 0, .int .i64 0, .slice none 0 0] 33) = W := ⟨_, rfl⟩
  rw [hW] at k0 hb0
  have HSW := Lib.hid (show W.heap.size = w.heap.size + 1 by rw [← hW]; simp)
  have K0 := Lib.hid k0
  have HB0 := Lib.hid hb0
  have hw : IntKind.i64.wrap (P : Int) = (P : Int) := wrap_in (by omega) (by omega)
  have HC := Lib.hid (l4List_any s P W hs (by omega))
  have HRL := Lib.hid (rLs_len s P)
  obtain ⟨q, hq⟩ : ∃ q, rSd s P = q := ⟨_, rfl⟩
  obtain ⟨ys, hys⟩ : ∃ ys, rLs s P = ys := ⟨_, rfl⟩
  rw [hq, hys] at HC
  rw [hys] at HRL
  rw [hq, hys]
  obtain ⟨hr1, hr2⟩ := hr
  obtain ⟨hc1, hc2⟩ := hc
  obtain ⟨hs1, hs2⟩ := hs
  clear k0 hb0 hq hys
  go_enter Try.func55, Try.ntmps55
  go_wp2_with fail
  refine (l1In_yes _ _ _ _ hs1 hs2).mono ?_
  rintro e w' ⟨rfl, rfl⟩
  go_wp2_with fail
  refine (l1In_yes _ _ _ _ hr1 hr2).mono ?_
  rintro e w' ⟨rfl, rfl⟩
  go_wp2_with fail
  refine (l1In_yes _ _ _ _ hc1 hc2).mono ?_
  rintro e w' ⟨rfl, rfl⟩
  go_wp2_with fail
  refine HC.out.mono ?_
  rintro e w1 ⟨v, rfl, hr, hb⟩
  obtain ⟨A1, c1, rfl, _, _, _⟩ := hr.form
  have hsW := HSW.out
  have K1 := K0.out.below hb (by omega)
  have B1 := HB0.out.trans (hb.mono (by omega))
  have HE := Lib.hid (mat_ret0 (r := .int .i64 r) (c := .int .i64 c) (Nat.le_refl _) K1 hr (by omega) B1)
  have hlo := Lib.hid (show w.heap.size ≤ W.heap.size by omega)
  obtain ⟨v0, v1, v2, p0, p1, p2, vl⟩ := K1
  clear hr hb B1 hsW hW hw hP K0 HB0 HC
  go_wp2
  obtain ⟨⟨z0, z1, z2, _, _, _, _⟩, e1, e2⟩ := HE.out
  refine bodyPost_ret (v := .tuple #[matV r c (.slice A1 ys.length c1), .int .i64 q]) (by simp [results, Try.results55, go_sem, z0, z1, z2]) rfl ?_
  exact ⟨_, rfl, e1.wider hlo.out (Nat.le_refl _), e2⟩
end Go.Proofs.Ytilmglockldddaa
