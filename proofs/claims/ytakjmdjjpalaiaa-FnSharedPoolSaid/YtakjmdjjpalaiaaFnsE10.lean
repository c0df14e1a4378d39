/- Contracts: blocks, and whether they fit; the reference's. -/
import Derived.Test.YtakjmdjjpalaiaaFnsE8
namespace Go.Proofs.Ytakjmdjjpalaiaa
open Go.RowKit

set_option maxHeartbeats 800000 in
theorem fits_any (r c l : Int) (A : Option Addr) (cap n B : Nat) (zs : List Int) (w : World) (hs : Sl w B A zs) (hB : B ≤ w.heap.size) (e : n = zs.length) (hn : n ≤ 1100000) (ob : Bool) (hob : ob = true ↔ OkB r c zs l) :
    Calls Try.prog 55 #[matV r c (.slice A n cap), .int .i64 l] w fun e w' => e = .returned (.bool ob) ∧ Below w.heap.size w w' := by
  subst e
  have obT := Lib.hid (fun h : OkB r c zs l => hob.2 h)
  have obF := Lib.hid (fun h : ¬ OkB r c zs l => show ob = false by cases ob; rfl; exact absurd (hob.1 rfl) h)
  clear hob
  have q0 := Cell3.new w (.int .i64 r) (.int .i64 c) (.slice A zs.length cap) 26
  obtain ⟨W, hW⟩ : ∃ W, w.alloc (.cells #[.int .i64 r, .int .i64 c, .slice A zs.length cap] 26) = W := ⟨_, rfl⟩
  have hb : Below w.heap.size w W := hW ▸ (Below.refl _ _).alloc (Nat.le_refl _) _
  have hws : W.heap.size = w.heap.size + 1 := by rw [← hW]; simp
  have HS := Lib.hid (hs.below hb hB)
  rw [hW] at q0
  have Q0 := Lib.hid q0
  have HB := Lib.hid hb
  clear hs hb
  obtain ⟨a0, a1, a2, _, _, _, alt⟩ := q0
  by_cases hm : OkM r c zs
  · have hr1 := hm.1
    have hc1 := hm.2.1
    have HM := Lib.hid hm
    by_cases hl : 1 ≤ l ∧ l ≤ 5
    · have h1 : Int.tmod r l = r % l := Int.tmod_eq_emod_of_nonneg (by omega)
      have h2 : Int.tmod c l = c % l := Int.tmod_eq_emod_of_nonneg (by omega)
      have hl0 : ¬ l = 0 := by omega
      obtain ⟨x, hx⟩ : ∃ x, Int.tmod r l = x := ⟨_, rfl⟩
      obtain ⟨y, hy⟩ : ∃ y, Int.tmod c l = y := ⟨_, rfl⟩
      rw [hx] at h1
      rw [hy] at h2
      have HX := Lib.hid h1
      have HY := Lib.hid h2
      clear hm h1 h2
      go_enter Try.func55, Try.ntmps55
      go_wp2_with fail
      refine (specMV_yes r c A cap _ B zs W HS.out (by omega) rfl (by omega) HM.out).mono ?_
      rintro e w2 ⟨rfl, hb2⟩
      obtain ⟨c0, c1, c2, _, _, _, clt⟩ := Q0.out.below hb2 (by omega)
      have HB2 := Lib.hid (HB.out.trans (hb2.mono (by omega)))
      clear hb2 a0 a1 a2
      go_wp2_with fail
      refine (l1In_yes _ _ _ _ hl.1 hl.2).mono ?_
      rintro e w' ⟨rfl, rfl⟩
      by_cases hx0 : x = 0
      · by_cases hy0 : y = 0
        · have HO := Lib.hid (obT.out ⟨HM.out, hl, by rw [← HX.out]; exact hx0, by rw [← HY.out]; exact hy0⟩)
          clear obT obF
          have hbx : (x == 0) = true := by simpa using hx0
          have hby : (y == 0) = true := by simpa using hy0
          go_wp2
          go_ret
          exact ⟨by rw [HO.out]; first | rfl | simp [hx0, hy0], HB2.out⟩
        · have HO := Lib.hid (obF.out (fun h => hy0 (by rw [HY.out]; exact h.2.2.2)))
          clear obT obF
          have hbx : (x == 0) = true := by simpa using hx0
          have hby : (y == 0) = false := by simpa using hy0
          go_wp2
          go_ret
          exact ⟨by rw [HO.out]; first | rfl | simp [hx0, hy0], HB2.out⟩
      · have HO := Lib.hid (obF.out (fun h => hx0 (by rw [HX.out]; exact h.2.2.1)))
        clear obT obF
        have hbx : (x == 0) = false := by simpa using hx0
        go_wp2
        go_ret
        exact ⟨by rw [HO.out]; first | rfl | simp [hx0], HB2.out⟩
    · have hl' : l < 1 ∨ 5 < l := by omega
      have HO := Lib.hid (obF.out (fun h => hl h.2.1))
      clear obT obF hm hl
      go_enter Try.func55, Try.ntmps55
      go_wp2_with fail
      refine (specMV_yes r c A cap _ B zs W HS.out (by omega) rfl (by omega) HM.out).mono ?_
      rintro e w2 ⟨rfl, hb2⟩
      have HB2 := Lib.hid (HB.out.trans (hb2.mono (by omega)))
      clear hb2 a0 a1 a2
      go_wp2_with fail
      refine (l1In_no _ _ _ _ hl').mono ?_
      rintro e w' ⟨rfl, rfl⟩
      go_wp2
      go_ret
      exact ⟨by rw [HO.out]; rfl, HB2.out⟩
  · have HM := Lib.hid hm
    have HO := Lib.hid (obF.out (fun h => hm h.1))
    clear obT obF hm
    go_enter Try.func55, Try.ntmps55
    go_wp2_with fail
    refine (specMV_no r c A cap _ B zs W HS.out (by omega) rfl (by omega) HM.out).mono ?_
    rintro e w2 ⟨rfl, hb2⟩
    have HB2 := Lib.hid (HB.out.trans (hb2.mono (by omega)))
    clear hb2 a0 a1 a2
    go_wp2
    go_ret
    exact ⟨by rw [HO.out]; rfl, HB2.out⟩

theorem blk_le {a n s : Nat} (h : a < n) : a * s + s ≤ n * s := by
  have : (a + 1) * s ≤ n * s := Nat.mul_le_mul_right _ (by omega)
  rw [Nat.add_mul, Nat.one_mul] at this
  omega
def blockL (s c : Nat) (zs : List Int) (a b n : Nat) : List Int := (List.range n).map (bval s c zs a b)
theorem blockL_len (s c : Nat) (zs : List Int) (a b n : Nat) : (blockL s c zs a b n).length = n := by simp [blockL]
theorem blockL_succ (s c : Nat) (zs : List Int) (a b n : Nat) : blockL s c zs a b (n + 1) = blockL s c zs a b n ++ [bval s c zs a b n] := by simp [blockL, List.range_succ]
theorem blockL_get (s c : Nat) (zs : List Int) (a b n j : Nat) (hj : j < n) : (blockL s c zs a b n).getD j 0 = bval s c zs a b j := by simp [blockL, hj]
set_option maxHeartbeats 1600000 in
theorem block_any (r c a b s : Nat) (A : Option Addr) (cap n B : Nat) (zs : List Int) (w : World) (hs : Sl w B A zs) (hB : B ≤ w.heap.size) (e : n = zs.length) (hl : zs.length = r * c) (hr : r ≤ 5) (hc : c ≤ 5) (hs1 : 1 ≤ s ∧ s ≤ 5) (ha : a * s + s ≤ r) (hb0 : b * s + s ≤ c) :
    Calls Try.prog 56 #[matV r c (.slice A n cap), .int .i64 a, .int .i64 b, .int .i64 s] w fun e w' => ∃ v, e = .returned v ∧ Row w' w.heap.size w'.heap.size v (blockL s c zs a b (s * s)) ∧ Below w.heap.size w w' := by
  subst e
  have hTS : Hid (∀ k j, j < s → blockL s c zs a b (k * s + j + 1) = blockL s c zs a b (k * s + j) ++ [zs.getD ((a * s + k) * c + (b * s + j)) 0]) := fun k j hj => by
    rw [blockL_succ]
    unfold bval bix
    rw [ix_div hj, ix_mod hj]
  have hTL : Hid (∀ n, (blockL s c zs a b n).length = n) := fun n => blockL_len _ _ _ _ _ _
  have hT0 : Hid (blockL s c zs a b 0 = []) := rfl
  obtain ⟨T, hT⟩ : ∃ T, blockL s c zs a b = T := ⟨_, rfl⟩
  rw [hT] at hTS hTL hT0 ⊢
  clear hT
  have hsi : (a : Int) * (s : Int) = ((a * s : Nat) : Int) := by simp
  have hti : (b : Int) * (s : Int) = ((b * s : Nat) : Int) := by simp
  obtain ⟨av, has⟩ : ∃ av, a * s = av := ⟨_, rfl⟩
  obtain ⟨bs, hbs⟩ : ∃ bs, b * s = bs := ⟨_, rfl⟩
  rw [has] at ha hsi hTS
  rw [hbs] at hb0 hti hTS
  have HL := Lib.hid hl
  have hr25 : zs.length ≤ 25 := by rw [hl]; exact Nat.mul_le_mul hr hc
  clear hl has hbs
  have q0 := (Cell3.new w (.int .i64 r) (.int .i64 c) (.slice A zs.length cap) 26).alloc (.cells #[] 3)
  have qr := lit0M (w.alloc (.cells #[.int .i64 r, .int .i64 c, .slice A zs.length cap] 26))
  obtain ⟨W, hW⟩ : ∃ W, (w.alloc (.cells #[.int .i64 r, .int .i64 c, .slice A zs.length cap] 26)).alloc (.cells #[] 3) = W := ⟨_, rfl⟩
  simp only [World.size_alloc] at qr
  rw [hW] at q0 qr
  have hb : Below w.heap.size w W := hW ▸ ((Below.refl _ _).alloc (Nat.le_refl _) _).alloc (by simp) _
  have hws : W.heap.size = w.heap.size + 2 := by rw [← hW]; simp
  have HS := Lib.hid (hs.below hb hB)
  have Q0 := Lib.hid q0
  have QR := Lib.hid qr
  have HB := Lib.hid hb
  clear hs hb q0 qr
  go_enter Try.func56, Try.ntmps56
  go_wp2
  go_loopw [9, 10] (fun v i wr => ∃ k : Nat, k ≤ s ∧ i = .int .i64 k ∧ Row wr (w.heap.size + 1) wr.heap.size v (T (k * s)) ∧ Below w.heap.size w wr ∧ Cell3 wr w.heap.size (.int .i64 r) (.int .i64 c) (.slice A zs.length cap) ∧ Sl wr B A zs ∧ W.heap.size ≤ wr.heap.size) (fun _ i _ => s - (intOf i).toNat)
  case atStart => exact ⟨0, Nat.zero_le _, rfl, by rw [Nat.zero_mul, hT0.out]; exact QR.out.wider (Nat.le_refl _) (by omega), HB.out, Q0.out, HS.out, Nat.le_refl _⟩
  case round =>
    obtain ⟨k, hk, rfl, hrow, hbel, hc0, hsl, hsz⟩ := hrel
    by_cases hlt : k < s
    · have HR := Lib.hid hrow
      have HBl := Lib.hid hbel
      have H0 := Lib.hid hc0
      have HSl := Lib.hid hsl
      clear hrow hbel hc0 hsl Q0 QR HB HS
      go_wp2
      obtain ⟨wo, hwo⟩ : ∃ wo, wo = wr := ⟨_, rfl⟩
      go_loopw [9, 11] (fun v i wr => ∃ j : Nat, j ≤ s ∧ i = .int .i64 j ∧ Row wr (w.heap.size + 1) wr.heap.size v (T (k * s + j)) ∧ Below w.heap.size w wr ∧ Cell3 wr w.heap.size (.int .i64 r) (.int .i64 c) (.slice A zs.length cap) ∧ Sl wr B A zs ∧ W.heap.size ≤ wr.heap.size) (fun _ i _ => s - (intOf i).toNat)
      case atStart => exact ⟨0, Nat.zero_le _, rfl, HR.out, HBl.out, H0.out, HSl.out, hsz⟩
      case round =>
        clear HR HBl H0 HSl hwo
        clear wo
        obtain ⟨j, hj, rfl, hrow, hbel, hc0, hsl, hsz⟩ := hrel
        by_cases hjlt : j < s
        · have hTk := hTS.out k j hjlt
          have hTl := hTL.out (k * s + j)
          have hix : (av + k) * c + (bs + j) < zs.length := by rw [HL.out]; exact ix_lt (by omega) (by omega)
          obtain ⟨bm, om, hA, hbB, hcz⟩ := hsl.at_ hix
          subst hA
          obtain ⟨ak, hak⟩ : ∃ ak, av + k = ak := ⟨_, rfl⟩
          rw [hak] at hTk hix hcz
          have haki : (av : Int) + (k : Int) = (ak : Int) := by omega
          have hi1 : (ak : Int) * (c : Int) = ((ak * c : Nat) : Int) := by simp
          obtain ⟨L, hL⟩ : ∃ L, ak * c = L := ⟨_, rfl⟩
          rw [hL] at hTk hix hcz hi1
          obtain ⟨ix, hixe⟩ : ∃ ix, L + (bs + j) = ix := ⟨_, rfl⟩
          rw [hixe] at hTk hix hcz
          have hi2 : (L : Int) + (bs : Int) + (j : Int) = (ix : Int) := by omega
          obtain ⟨z, hz⟩ : ∃ z, zs.getD ix 0 = z := ⟨_, rfl⟩
          rw [hz] at hTk hcz
          obtain ⟨n1, hn1⟩ : ∃ n1, k * s + j = n1 := ⟨_, rfl⟩
          rw [hn1] at hTk hTl hrow
          obtain ⟨ys, hys⟩ : ∃ ys, T n1 = ys := ⟨_, rfl⟩
          rw [hys] at hTk hTl hrow
          have hks : n1 ≤ 30 := by
            have : k * s + j < s * s := ix_lt hlt hjlt
            have : s * s ≤ 5 * 5 := Nat.mul_le_mul hs1.2 hs1.2
            omega
          have HYL := Lib.hid hTl
          have HTk := Lib.hid hTk
          have HN1 := Lib.hid hn1
          have hixi : (ix : Int) < (zs.length : Int) := by omega
          have hji : (j : Int) < (s : Int) := by omega
          have hLb : L ≤ 25 := by omega
          have hLbs : (L : Int) + (bs : Int) ≤ 25 := by omega
          clear hak hL hixe hz hn1 hys hTk hTl
          have hbl := Lib.hid hrow.block_lt
          have hal := World.grownBy_alloc wr (.cells #[.int .i64 z] 3) none
          have hownA := (hrow.grown hal (fun g e => by cases e)).wider (Nat.le_refl _) (hi' := wr.heap.size + 1) (by omega)
          have H0A := Lib.hid (hc0.grown hal (by simp))
          have HSA := Lib.hid (hsl.below (B' := wr.heap.size) ((Below.refl _ wr).alloc (Nat.le_refl _) (.cells #[.int .i64 z] 3)) (by omega))
          have HBA := Lib.hid (hbel.alloc (by omega) (.cells #[.int .i64 z] 3))
          obtain ⟨c0, c1, c2, _, _, _, clt⟩ := hc0
          clear hal hrow hsl hbel
          go_wp2_with (
            at_builtin
            go_loud (refine wpList_app1 rfl (.tmp 23) (.tmp 42) rfl (w.heap.size + 1) (wr.heap.size + 1) _ ys rfl hownA wr.heap.size z rfl (World.cell?_alloc_at _ _ _ _ rfl) (by have := HYL.out; omega) (by simp; omega) ?_)
            intro v' w5 hr5 hg5
            go_loud (
             have hsz5 := hg5.size
             have J0 := Lib.hid (H0A.out.grown hg5 (fun e => by have := (hbl.out w.heap.size e.symm).1; omega))
             have JS := Lib.hid (HSA.out.keep (w' := w5) (fun p hp => World.cell?_of_block (hg5.block _ (by simp; omega) (fun e => by have := (hbl.out _ e.symm).1; omega))))
             have JB := Lib.hid (HBA.out.grown hg5 (by simp; omega) (fun g e => by have := (hbl.out g e).1; omega))
             have JR := Lib.hid hr5
             clear hr5 hg5))
          go_roundw
          case rel => exact ⟨j + 1, by omega, by go_num, by rw [← Nat.add_assoc, HN1.out, HTk.out]; exact JR.out, JB.out, J0.out, JS.out, by simp at hsz5; omega⟩
          case measure => simp [intOf]; omega
        · have e : j = s := by omega
          have hNk : (k + 1) * s = k * s + s := by rw [Nat.add_mul, Nat.one_mul]
          rw [e] at hrow
          rw [← hNk] at hrow
          have HR := Lib.hid hrow
          have HBl := Lib.hid hbel
          have H0 := Lib.hid hc0
          have HSl := Lib.hid hsl
          clear hrow hbel hc0 hsl hNk
          subst e
          go_wp2
          go_roundw
          case rel => exact ⟨k + 1, by omega, by go_num, HR.out, HBl.out, H0.out, HSl.out, hsz⟩
          case measure => simp [intOf]; omega
    · have e : k = s := by omega
      rw [e] at hrow
      have HR := Lib.hid hrow
      have HBl := Lib.hid hbel
      clear hrow hbel
      subst e
      go_wp2
      go_ret
      exact ⟨_, rfl, HR.out.wider (by omega) (Nat.le_refl _), HBl.out⟩
end Go.Proofs.Ytakjmdjjpalaiaa
