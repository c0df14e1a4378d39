/- Contracts: ring numbers of numbers; sums of windows. -/
import Derived.Test.YtakjmdjjpalaiaaFnsE2
namespace Go.Proofs.Ytakjmdjjpalaiaa
open Go.RowKit

theorem implRing (x : Int) (w : World) : Calls Try.prog 68 #[.int .i64 x] w fun e w' => e = .returned (.int .i64 (x % 4096)) ∧ w = w' := by
  go_enter Try.func68, Try.ntmps68
  go_wp2
  go_ret
  exact ⟨by simp [and4095], rfl⟩
theorem nestMM (w : World) (r c r2 c2 : Int) (s s2 : Value) : ∀ W, W = (w.alloc (.cells #[.int .i64 r, .int .i64 c, s] 26)).alloc (.cells #[.int .i64 r2, .int .i64 c2, s2] 26) →
    Cell3 W w.heap.size (.int .i64 r) (.int .i64 c) s ∧ Cell3 W (w.heap.size + 1) (.int .i64 r2) (.int .i64 c2) s2 ∧ Below w.heap.size w W ∧ W.heap.size = w.heap.size + 2 := by
  rintro W rfl
  have a := Cell3.new w (.int .i64 r) (.int .i64 c) s 26
  have b := Cell3.new (w.alloc (.cells #[.int .i64 r, .int .i64 c, s] 26)) (.int .i64 r2) (.int .i64 c2) s2 26
  simp only [World.size_alloc] at b
  exact ⟨a.alloc _, b, ((Below.refl _ _).alloc (Nat.le_refl _) _).alloc (by simp) _, by simp⟩
theorem mul_rng {x y : Int} (hx : 0 ≤ x ∧ x ≤ 4095) (hy : 0 ≤ y ∧ y ≤ 4095) : 0 ≤ x * y ∧ x * y ≤ 16769025 :=
  ⟨Int.mul_nonneg hx.1 hy.1, Int.le_trans (Int.mul_le_mul hx.2 hy.2 hy.1 (by omega)) (by omega)⟩
theorem foldS_bound {kr kc c : Nat} {zs ks : List Int} {a b : Nat} (hz : ∀ p, 0 ≤ zs.getD p 0 ∧ zs.getD p 0 ≤ 4095) (hk : ∀ p, 0 ≤ ks.getD p 0 ∧ ks.getD p 0 ≤ 4095) (n : Nat) : 0 ≤ foldS kr kc c zs ks a b n ∧ foldS kr kc c zs ks a b n ≤ n * 16769025 := by
  unfold foldS
  induction n with
  | zero => simp [S]
  | succ n ih =>
    rw [S_succ]
    have := mul_rng (hz ((a + n / kc) * c + (b + n % kc))) (hk n)
    push_cast
    omega
theorem foldS_succ (kr kc c : Nat) (zs ks : List Int) (a b k j : Nat) (hj : j < kc) : foldS kr kc c zs ks a b (k * kc + j + 1) = foldS kr kc c zs ks a b (k * kc + j) + ks.getD (k * kc + j) 0 * zs.getD ((a + k) * c + (b + j)) 0 := by
  unfold foldS
  rw [S_succ, ix_div hj, ix_mod hj, Int.mul_comm (ks.getD _ 0)]

set_option maxHeartbeats 1600000 in
theorem window_any (r c kr kc a b : Nat) (bm om cap n B : Nat) (zs : List Int) (bk ok capk nk Bk : Nat) (ks : List Int) (w : World) (hs : Sl w B (some ⟨bm, om, none⟩) zs) (hB : B ≤ w.heap.size) (e : n = zs.length) (hsk : Sl w Bk (some ⟨bk, ok, none⟩) ks) (hBk : Bk ≤ w.heap.size) (ek : nk = ks.length)
    (hnc : n ≤ cap) (hcm : cap ≤ maxLen) (hnck : nk ≤ capk) (hcmk : capk ≤ maxLen) (hm : OkM r c zs) (hmk : OkM kr kc ks) (ha : a + kr ≤ r) (hb0 : b + kc ≤ c) :
    Calls Try.prog 79 #[matV r c (.slice (some ⟨bm, om, none⟩) n cap), matV kr kc (.slice (some ⟨bk, ok, none⟩) nk capk), .int .i64 a, .int .i64 b] w fun e w' => e = .returned (.int .i64 (foldS kr kc c zs ks a b (kr * kc) % 4096)) ∧ Below w.heap.size w w' := by
  subst e
  subst ek
  have hlen : zs.length = r * c := by have := hm.2.2.1; exact_mod_cast this
  have hlenk : ks.length = kr * kc := by have := hmk.2.2.1; exact_mod_cast this
  have hz := fun p => getD_rng hm.2.2.2 p
  have hk := fun p => getD_rng hmk.2.2.2 p
  have hFB := Lib.hid fun n => foldS_bound (kr := kr) (kc := kc) (c := c) (a := a) (b := b) hz hk n
  have hFS := Lib.hid fun k j hj => foldS_succ kr kc c zs ks a b k j hj
  have hF0 : foldS kr kc c zs ks a b 0 = 0 := rfl
  obtain ⟨F, hF⟩ : ∃ F, foldS kr kc c zs ks a b = F := ⟨_, rfl⟩
  rw [hF] at hFB hFS hF0 ⊢
  clear hF
  have hr1 := hm.1
  have hc1 := hm.2.1
  have hkr1 := hmk.1
  have hkc1 := hmk.2.1
  have HZ := Lib.hid hz
  have HLEN := Lib.hid hlen
  have HLENK := Lib.hid hlenk
  have hl25 := hmk.len
  clear hm hmk hz hk hlen hlenk
  obtain ⟨W, hW⟩ : ∃ W, (w.alloc (.cells #[.int .i64 r, .int .i64 c, .slice (some ⟨bm, om, none⟩) zs.length cap] 26)).alloc (.cells #[.int .i64 kr, .int .i64 kc, .slice (some ⟨bk, ok, none⟩) ks.length capk] 26) = W := ⟨_, rfl⟩
  obtain ⟨q0, q1, hb, hws⟩ := nestMM w r c kr kc _ _ W hW.symm
  have HS := Lib.hid (hs.below hb hB)
  have HK := Lib.hid (hsk.below hb hBk)
  have Q0 := Lib.hid q0
  have Q1 := Lib.hid q1
  have HB := Lib.hid hb
  obtain ⟨a0, a1, a2, _, _, _, alt⟩ := q0
  obtain ⟨b0, b1, b2, _, _, _, blt⟩ := q1
  clear hs hsk hb
  go_enter Try.func79, Try.ntmps79
  go_wp2
  clear a0 a1 a2 b0 b1 b2
  go_loopw [9, 16] (fun s i wr => ∃ k : Nat, k ≤ kr ∧ i = .int .i64 k ∧ s = .int .i64 (F (k * kc)) ∧ Below w.heap.size w wr ∧ Cell3 wr w.heap.size (.int .i64 r) (.int .i64 c) (.slice (some ⟨bm, om, none⟩) zs.length cap) ∧ Cell3 wr (w.heap.size + 1) (.int .i64 kr) (.int .i64 kc) (.slice (some ⟨bk, ok, none⟩) ks.length capk) ∧ Sl wr B (some ⟨bm, om, none⟩) zs ∧ Sl wr Bk (some ⟨bk, ok, none⟩) ks ∧ W.heap.size ≤ wr.heap.size) (fun _ i _ => kr - (intOf i).toNat)
  case atStart => exact ⟨0, Nat.zero_le _, rfl, by rw [Nat.zero_mul, hF0], HB.out, Q0.out, Q1.out, HS.out, HK.out, Nat.le_refl _⟩
  case round =>
    obtain ⟨k, hk, rfl, rfl, hbel, hc0, hc1', hsl, hslk, hsz⟩ := hrel
    have hHS := Lib.hid hsl
    have hHK := Lib.hid hslk
    have hHB := Lib.hid hbel
    have hK0 := Lib.hid hc0
    have hK1 := Lib.hid hc1'
    obtain ⟨x0, x1, x2, _, _, _, xlt⟩ := hc0
    obtain ⟨y0, y1, y2, _, _, _, ylt⟩ := hc1'
    clear hsl hslk hbel
    by_cases hlt : k < kr
    · have hL1 : (a + k) * c + c ≤ zs.length := by
        rw [HLEN.out]; have : (a + k + 1) * c ≤ r * c := Nat.mul_le_mul_right _ (by omega)
        rw [Nat.add_mul (a + k) 1] at this; omega
      have hL2 : k * kc + kc ≤ ks.length := by
        rw [HLENK.out]; have : (k + 1) * kc ≤ kr * kc := Nat.mul_le_mul_right _ (by omega)
        rw [Nat.add_mul k 1] at this; omega
      have hN : (k + 1) * kc = k * kc + kc := by rw [Nat.add_mul, Nat.one_mul]
      have hFSk := hFS.out k
      have hi2 : (k : Int) * (kc : Int) = ((k * kc : Nat) : Int) := by simp
      obtain ⟨ak, hak⟩ : ∃ ak, a + k = ak := ⟨_, rfl⟩
      rw [hak] at hL1 hFSk
      have haki : (a : Int) + (k : Int) = (ak : Int) := by omega
      have hi1 : (ak : Int) * (c : Int) = ((ak * c : Nat) : Int) := by simp
      obtain ⟨L1, hL1e⟩ : ∃ L1, ak * c = L1 := ⟨_, rfl⟩
      obtain ⟨L2, hL2e⟩ : ∃ L2, k * kc = L2 := ⟨_, rfl⟩
      rw [hL1e] at hL1 hi1 hFSk
      rw [hL2e] at hL2 hi2 hN hFSk ⊢
      have HFS := Lib.hid hFSk
      have HHN := Lib.hid hN
      have HE := Lib.hid (And.intro hak (And.intro hL1e hL2e))
      clear hak hL1e hL2e hFSk hN
      have hFk := hFB.out L2
      go_wp2_with fail
      refine (rowOf_len r c ak bm om zs.length cap L1 c _ hi1 rfl (by omega) hL1 hnc (by unfold maxLen at hcm; omega) (by omega)).mono ?_
      rintro e w4 ⟨cp, rfl, hcp, hcp', hb4⟩
      have hcd : ¬ cp = b := by omega
      have hz4 := hb4.size
      have hH4 := Lib.hid (hHB.out.trans (hb4.mono (by omega)))
      have hS4 := Lib.hid (hHS.out.below hb4 (by omega))
      have hSk4 := Lib.hid (hHK.out.below hb4 (by omega))
      have hK04 := Lib.hid (hK0.out.below hb4 (by omega))
      have hK14 := Lib.hid (hK1.out.below hb4 (by omega))
      clear x0 x1 x2 y0 y1 y2 hHS hHK hHB hK0 hK1 hb4
      obtain ⟨y0, y1, y2, _, _, _, ylt4⟩ := hK14.out
      have hbi : (b : Int) ≤ (c : Int) := by omega
      go_wp2_with fail
      refine (rowOf_len kr kc k bk ok ks.length capk L2 kc _ hi2 rfl (by omega) hL2 hnck (by unfold maxLen at hcmk; omega) (by omega)).mono ?_
      rintro e w5 ⟨cp2, rfl, hcp2, hcp2', hb5⟩
      have hz5 := hb5.size
      have hH5 := Lib.hid (hH4.out.trans (hb5.mono (by omega)))
      have hS5 := Lib.hid (hS4.out.below hb5 (by omega))
      have hSk5 := Lib.hid (hSk4.out.below hb5 (by omega))
      have hK05 := Lib.hid (hK04.out.below hb5 (by omega))
      have hK15 := Lib.hid (hK14.out.below hb5 (by omega))
      clear y0 y1 y2 hS4 hSk4 hH4 hK04 hK14 hb5
      go_wp2
      go_loop [9, 30] (fun s i => ∃ j : Nat, j ≤ kc ∧ i = .int .i64 j ∧ s = .int .i64 (F (L2 + j))) (fun _ i => kc - (intOf i).toNat)
      case atStart => exact ⟨0, Nat.zero_le _, rfl, rfl⟩
      case round =>
        obtain ⟨j, hj, rfl, rfl⟩ := hrel
        by_cases hjlt : j < kc
        · obtain ⟨bm', om', h1, _, hcz⟩ := hS5.out.at_ (k := L1 + (b + j)) (by omega)
          injection h1 with h1
          injection h1 with h3 h4
          subst h3 h4
          obtain ⟨bk', ok', h1, _, hck⟩ := hSk5.out.at_ (k := L2 + j) (by omega)
          injection h1 with h1
          injection h1 with h3 h4
          subst h3 h4
          have hFn := HFS.out j hjlt
          have hzr := HZ.out (L1 + (b + j))
          have hF1 := hFB.out (L2 + j)
          have hF2 := hFB.out (L2 + j + 1)
          obtain ⟨z, hze⟩ : ∃ z, zs.getD (L1 + (b + j)) 0 = z := ⟨_, rfl⟩
          obtain ⟨x, hxe⟩ : ∃ x, ks.getD (L2 + j) 0 = x := ⟨_, rfl⟩
          obtain ⟨f1, hf1⟩ : ∃ f1, F (L2 + j) = f1 := ⟨_, rfl⟩
          obtain ⟨f2, hf2⟩ : ∃ f2, F (L2 + j + 1) = f2 := ⟨_, rfl⟩
          rw [hze] at hFn hcz
          rw [hxe] at hFn hck
          rw [hf1] at hFn hF1 ⊢
          rw [hf2] at hFn hF2
          obtain ⟨y, hy⟩ : ∃ y, x * z = y := ⟨_, rfl⟩
          rw [hy] at hFn
          have hcz' : w5.cell? ⟨bm, om + L1 + b + j, none⟩ = some (.int .i64 z) := by rw [← hcz]; congr 2; omega
          have hck' : w5.cell? ⟨bk, ok + L2 + j, none⟩ = some (.int .i64 x) := by rw [← hck]; congr 2; omega
          have HF2 := Lib.hid hf2
          have hfe : f1 + y = f2 := hFn.symm
          have hjc : (j : Int) < (kc : Int) := by omega
          have hjb : (j : Int) < (c : Int) - (b : Int) := by omega
          have hjn : j < c - b := by omega
          have hyr : y ≤ 900000000 ∧ -900000000 ≤ y := by omega
          clear hcz hck hze hxe hf1 hf2 hFn
          go_wp2
          go_round
          case rel => exact ⟨j + 1, by omega, by go_num, by rw [← Nat.add_assoc, HF2.out]⟩
          case measure => simp [intOf]; omega
        · have e : j = kc := by omega
          subst e
          go_wp2
          go_roundw
          case rel => exact ⟨k + 1, by omega, by go_num, by rw [HHN.out], hH5.out, hK05.out, hK15.out, hS5.out, hSk5.out, by omega⟩
          case measure => simp [intOf]; omega
    · have e : k = kr := by omega
      subst e
      go_wp2_with fail
      refine (implRing _ _).mono ?_
      rintro e w' ⟨rfl, rfl⟩
      go_wp2
      go_ret
      exact ⟨rfl, hHB.out⟩
end Go.Proofs.Ytakjmdjjpalaiaa
