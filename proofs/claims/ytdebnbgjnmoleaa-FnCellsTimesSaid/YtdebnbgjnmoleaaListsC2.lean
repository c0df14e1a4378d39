/- Contracts of the functions on lists of cells that the laws share: copies, equality, marks. -/
import Derived.Test.YtdebnbgjnmoleaaListsC
import Derived.Deep.RegionHeld3
namespace Go.Proofs.Ytdebnbgjnmoleaa
open Go.RowKit

theorem makeC (n : Nat) (hn : n ≤ 2000000) : ∀ w : World, (Instr.makeSlice 26 (.int .i64 (n : Int)) (.int .i64 (n : Int))).run Try.prog w = .ok (.slice (some ⟨w.heap.size, 0, none⟩) n n) (w.alloc (.cells (madeCells #[.int .i64 0, .int .i64 0, .int .i64 0] (n * 3)) 59)) := by
  obtain ⟨i0, hi0, hz0, hz1, hz2⟩ := info_parts info_cell
  intro w
  have hr := run_make (P := Try.prog) w 26 59 i0 _ Try.underlying26 hi0 hz0 .i64 .i64 n n (by omega) (Int.le_refl _) (by rw [hz2]; omega) (by omega)
  simp only [Int.toNat_natCast, hz1] at hr
  exact hr
theorem madeCells3 (m : Nat) : (madeCells #[Value.int .i64 0, Value.int .i64 0, Value.int .i64 0] m).toList = (List.replicate m (0 : Int)).map (Value.int .i64) := by
  apply List.ext_getElem?
  intro j
  by_cases hj : j < m
  · have h3 : j % 3 = 0 ∨ j % 3 = 1 ∨ j % 3 = 2 := by omega
    rcases h3 with h | h | h <;> simp [madeCells, hj, h]
  · simp [madeCells, hj]
theorem made_rowC (w : World) (n : Nat) (hn : n ≤ 2000000) : RowC (w.alloc (.cells (madeCells #[.int .i64 0, .int .i64 0, .int .i64 0] (n * 3)) 59)) w.heap.size (w.heap.size + 1) (.slice (some ⟨w.heap.size, 0, none⟩) n n) n (List.replicate (n * 3) 0) := by
  refine ⟨?_, fun g hg => by simp [Value.ownBlock] at hg; omega⟩
  rw [← madeCells3]
  exact World.ownsRow_lit w _ _ (Nat.le_refl _) (by simp only [maxLen]; omega) (by simp [madeCells])
theorem fill3 (ts : List Tri) (k : Nat) (hk : k < ts.length) : fillTo (fl ts) ((k + 1) * 3) = (((fillTo (fl ts) (k * 3)).set (k * 3) (ts.getD k t0).1).set (k * 3 + 1) (ts.getD k t0).2.1).set (k * 3 + 2) (ts.getD k t0).2.2 := by
  have hl := fl_len ts
  obtain ⟨g0, g1, g2⟩ := fl_get ts k hk
  rw [← g0, ← g1, ← g2, show (k + 1) * 3 = k * 3 + 2 + 1 by omega, fillTo_succ _ _ (by omega), show k * 3 + 2 = k * 3 + 1 + 1 by omega, fillTo_succ _ _ (by omega), fillTo_succ _ _ (by omega)]
set_option maxHeartbeats 800000 in
theorem toCellS_any (A : Option Addr) (c : Nat) (ts : List Tri) (w : World) (hs : Sl w w.heap.size A (fl ts)) (hn : ts.length ≤ 2000000) :
    Calls Try.prog 28 #[.slice A ts.length c] w fun e w' => ∃ v, e = .returned v ∧ RowC w' w.heap.size w'.heap.size v ts.length (fl ts) ∧ Below w.heap.size w w' := by
  have hmk := makeC ts.length hn
  have HF := Lib.hid (fill3 ts)
  have HFF : Hid (fillTo (fl ts) (ts.length * 3) = fl ts) := by have := fillTo_full (fl ts); rw [fl_len] at this; exact this
  have HFL : Hid (∀ k, k ≤ ts.length * 3 → (fillTo (fl ts) k).length = ts.length * 3) := fun k hk => by rw [fillTo_length _ _ (by rw [fl_len]; exact hk), fl_len]
  have h0 := made_rowC w ts.length hn
  rw [show List.replicate (ts.length * 3) (0 : Int) = fillTo (fl ts) (0 * 3) by rw [Nat.zero_mul, fillTo_zero, fl_len]] at h0
  have H0 := Lib.hid h0
  have HS := Lib.hid hs
  clear h0 hs
  go_enter Try.func28, Try.ntmps28
  go_wp2
  clear hmk
  go_loopw [4] (fun i wr => ∃ k : Nat, k ≤ ts.length ∧ i = .int .i64 k ∧ RowC wr w.heap.size (w.heap.size + 1) (.slice (some ⟨w.heap.size, 0, none⟩) ts.length ts.length) ts.length (fillTo (fl ts) (k * 3)) ∧ Below w.heap.size w wr ∧ w.heap.size + 1 ≤ wr.heap.size) (fun i _ => ts.length - (intOf i).toNat)
  case atStart => exact ⟨0, Nat.zero_le _, rfl, H0.out, (Below.refl _ _).alloc (Nat.le_refl _) _, by simp⟩
  case round =>
    clear H0
    obtain ⟨k, hk, rfl, hown, hnx, hsz⟩ := hrel
    by_cases hlt : k < ts.length
    · obtain ⟨b, off, rfl, hbB, c0, c1, c2⟩ := (HS.out.below hnx (Nat.le_refl _)).tri hlt
      have hf := HF.out k hlt
      obtain ⟨p, hp⟩ : ∃ p, (ts.getD k t0).1 = p := ⟨_, rfl⟩
      obtain ⟨q, hq⟩ : ∃ q, (ts.getD k t0).2.1 = q := ⟨_, rfl⟩
      obtain ⟨z, hz⟩ : ∃ z, (ts.getD k t0).2.2 = z := ⟨_, rfl⟩
      rw [hp] at c0 hf
      rw [hq] at c1 hf
      rw [hz] at c2 hf
      have HFk := Lib.hid hf
      have HOWN := Lib.hid hown
      have HNX := Lib.hid hnx
      have hki : (k : Int) < (ts.length : Int) := by omega
      clear hp hq hz hf hown hnx
      go_wp2_with fail
      refine (toCell_any p q z _).mono ?_
      rintro e w2 ⟨rfl, hb2⟩
      have hs2 := hb2.size
      have hrow2 := HOWN.out.below hb2 hsz
      obtain ⟨g0, hg0, _, _, d0, f0⟩ := hrow2.cell_ (j := k * 3) (by rw [HFL.out _ (by omega)]; omega)
      obtain ⟨g1, hg1, _, _, d1, f1⟩ := hrow2.cell_ (j := k * 3 + 1) (by rw [HFL.out _ (by omega)]; omega)
      obtain ⟨g2, hg2, _, _, d2, f2⟩ := hrow2.cell_ (j := k * 3 + 2) (by rw [HFL.out _ (by omega)]; omega)
      injection hg0 with hg0
      injection hg0 with hg0
      subst hg0
      injection hg1 with hg1
      injection hg1 with hg1
      subst hg1
      injection hg2 with hg2
      injection hg2 with hg2
      subst hg2
      obtain ⟨y0, e0⟩ : ∃ y, (fillTo (fl ts) (k * 3)).getD (k * 3) 0 = y := ⟨_, rfl⟩
      obtain ⟨y1, e1⟩ : ∃ y, (fillTo (fl ts) (k * 3)).getD (k * 3 + 1) 0 = y := ⟨_, rfl⟩
      obtain ⟨y2, e2⟩ : ∃ y, (fillTo (fl ts) (k * 3)).getD (k * 3 + 2) 0 = y := ⟨_, rfl⟩
      rw [e0] at d0
      rw [e1] at d1
      rw [e2] at d2
      have S := Lib.hid (((hrow2.stored (k * 3) p).1.stored (k * 3 + 1) q).1.stored (k * 3 + 2) z).1
      have HN2 := Lib.hid ((((HNX.out.trans (hb2.mono (by omega))).setCell (p := ⟨w.heap.size, k * 3, none⟩) (Nat.le_refl _) (.int .i64 p)).setCell (p := ⟨w.heap.size, k * 3 + 1, none⟩) (Nat.le_refl _) (.int .i64 q)).setCell (p := ⟨w.heap.size, k * 3 + 2, none⟩) (Nat.le_refl _) (.int .i64 z))
      clear hrow2 HOWN HNX e0 e1 e2 hb2 c0 c1 c2
      go_wp2
      go_roundw
      case rel => exact ⟨k + 1, by omega, by go_num, by rw [HFk.out]; exact S.out, HN2.out, by simp; omega⟩
      case measure => simp [intOf]; omega
    · have hkl : k = ts.length := by omega
      rw [hkl, HFF.out] at hown
      have HK := Lib.hid hkl
      have HO := Lib.hid hown
      clear hkl hown
      go_wp2
      go_ret
      exact ⟨_, rfl, HO.out.wider (Nat.le_refl _) hsz, hnx⟩
set_option maxHeartbeats 800000 in
theorem eqCellS_same (A A' : Option Addr) (c c' : Nat) (ts : List Tri) (w : World) (h1 : Sl w w.heap.size A (fl ts)) (h2 : Sl w w.heap.size A' (fl ts)) (hn : ts.length ≤ 4611686018427387904) :
    Calls Try.prog 15 #[.slice A ts.length c, .slice A' ts.length c'] w fun e w' => e = .returned (.bool true) ∧ Below w.heap.size w w' := by
  have H1 := Lib.hid h1
  have H2 := Lib.hid h2
  clear h1 h2
  go_enter Try.func15, Try.ntmps15
  go_wp2
  go_loopw [5] (fun i wr => ∃ k : Nat, k ≤ ts.length ∧ i = .int .i64 k ∧ Below w.heap.size w wr) (fun i _ => ts.length - (intOf i).toNat)
  case atStart => exact ⟨0, Nat.zero_le _, rfl, Below.refl _ _⟩
  case round =>
    obtain ⟨k, hk, rfl, hnx⟩ := hrel
    by_cases hlt : k < ts.length
    · obtain ⟨b, off, rfl, hbB, c0, c1, c2⟩ := (H1.out.below hnx (Nat.le_refl _)).tri hlt
      obtain ⟨b', off', rfl, hbB', d0, d1, d2⟩ := (H2.out.below hnx (Nat.le_refl _)).tri hlt
      obtain ⟨p, hp⟩ : ∃ p, (ts.getD k t0).1 = p := ⟨_, rfl⟩
      obtain ⟨q, hq⟩ : ∃ q, (ts.getD k t0).2.1 = q := ⟨_, rfl⟩
      obtain ⟨z, hz⟩ : ∃ z, (ts.getD k t0).2.2 = z := ⟨_, rfl⟩
      rw [hp] at c0 d0
      rw [hq] at c1 d1
      rw [hz] at c2 d2
      clear hp hq hz
      have hki : (k : Int) < (ts.length : Int) := by omega
      have hsz := hnx.size
      have e0 : wr.drew.cell? ⟨b, off + k * 3, none⟩ = some (.int .i64 p) := c0
      have e1 : wr.drew.cell? ⟨b, off + k * 3 + 1, none⟩ = some (.int .i64 q) := c1
      have e2 : wr.drew.cell? ⟨b, off + k * 3 + 2, none⟩ = some (.int .i64 z) := c2
      have e3 : wr.drew.cell? ⟨b', off' + k * 3, none⟩ = some (.int .i64 p) := d0
      have e4 : wr.drew.cell? ⟨b', off' + k * 3 + 1, none⟩ = some (.int .i64 q) := d1
      have e5 : wr.drew.cell? ⟨b', off' + k * 3 + 2, none⟩ = some (.int .i64 z) := d2
      have HNX := Lib.hid (below_drewN hnx 1)
      clear c0 c1 c2 d0 d1 d2 hnx
      go_wp2
      go_region_held3 (fun w' => (w'.cell? ⟨b, off + k * 3, none⟩ = some (.int .i64 p) ∧ w'.cell? ⟨b, off + k * 3 + 1, none⟩ = some (.int .i64 q) ∧ w'.cell? ⟨b, off + k * 3 + 2, none⟩ = some (.int .i64 z)) ∧ w'.cell? ⟨b', off' + k * 3, none⟩ = some (.int .i64 p) ∧ w'.cell? ⟨b', off' + k * 3 + 1, none⟩ = some (.int .i64 q) ∧ w'.cell? ⟨b', off' + k * 3 + 2, none⟩ = some (.int .i64 z))
        (first | exact ⟨⟨e0, e1, e2⟩, e3, e4, e5⟩ | exact ⟨⟨x0, x1, x2⟩, x3, x4, x5⟩ | fail)
        (first
          | (go_simp; go_at_call 42; refine (eqCell_same p q z wr.drew).mono ?_; rintro e w2 ⟨rfl, hb2⟩; have x0 := (hb2.cell (p := ⟨b, off + k * 3, none⟩) (show b < wr.heap.size by omega)).trans e0; have x1 := (hb2.cell (p := ⟨b, off + k * 3 + 1, none⟩) (show b < wr.heap.size by omega)).trans e1; have x2 := (hb2.cell (p := ⟨b, off + k * 3 + 2, none⟩) (show b < wr.heap.size by omega)).trans e2; have x3 := (hb2.cell (p := ⟨b', off' + k * 3, none⟩) (show b' < wr.heap.size by omega)).trans e3; have x4 := (hb2.cell (p := ⟨b', off' + k * 3 + 1, none⟩) (show b' < wr.heap.size by omega)).trans e4; have x5 := (hb2.cell (p := ⟨b', off' + k * 3 + 2, none⟩) (show b' < wr.heap.size by omega)).trans e5)
          | fail)
      have HB2 : Hid (Below w.heap.size w w2) := HNX.out.trans (hb2.mono (show w.heap.size ≤ wr.heap.size by omega))
      clear hb2 e0 e1 e2 e3 e4 e5 x0 x1 x2 x3 x4 x5
      go_wp2
      go_roundw
      case rel => exact ⟨k + 1, by omega, by go_num, HB2.out⟩
      case measure => simp [intOf]; omega
    · have hki : k = ts.length := by omega
      subst hki
      go_wp2
      go_ret
      exact ⟨rfl, hnx⟩
set_option maxHeartbeats 800000 in
theorem sameC_same (B B' : Nat) (A A' : Option Addr) (c c' : Nat) (ts : List Tri) (w : World) (h1 : Sl w B A (fl ts)) (h2 : Sl w B' A' (fl ts)) (hn : ts.length ≤ 4611686018427387904) :
    Calls Try.prog 21 #[.slice A ts.length c, .slice A' ts.length c'] w fun e w' => e = .returned (.bool true) ∧ Drew w w' := by
  have H1 := Lib.hid h1
  have H2 := Lib.hid h2
  clear h1 h2
  go_enter Try.func21, Try.ntmps21
  go_wp2
  go_loopw [5] (fun i wr => ∃ k : Nat, k ≤ ts.length ∧ i = .int .i64 k ∧ Drew w wr) (fun i _ => ts.length - (intOf i).toNat)
  case atStart => exact ⟨0, Nat.zero_le _, rfl, Drew.refl _⟩
  case round =>
    obtain ⟨k, hk, rfl, hd⟩ := hrel
    by_cases hlt : k < ts.length
    · obtain ⟨b, off, rfl, hbB, c0, c1, c2⟩ := (hd.sl H1.out).tri hlt
      obtain ⟨b', off', rfl, hbB', d0, d1, d2⟩ := (hd.sl H2.out).tri hlt
      obtain ⟨p, hp⟩ : ∃ p, (ts.getD k t0).1 = p := ⟨_, rfl⟩
      obtain ⟨q, hq⟩ : ∃ q, (ts.getD k t0).2.1 = q := ⟨_, rfl⟩
      obtain ⟨z, hz⟩ : ∃ z, (ts.getD k t0).2.2 = z := ⟨_, rfl⟩
      rw [hp] at c0 d0
      rw [hq] at c1 d1
      rw [hz] at c2 d2
      clear hp hq hz
      have hki : (k : Int) < (ts.length : Int) := by omega
      go_wp2
      go_quiet (fail)
      go_wp2
      go_roundw
      case rel => exact ⟨k + 1, by omega, by go_num, hd.more _⟩
      case measure => simp [intOf]; omega
    · have hki : k = ts.length := by omega
      subst hki
      go_wp2
      go_ret
      exact ⟨rfl, hd⟩
set_option maxHeartbeats 800000 in
theorem markC_any (lo hi : Nat) (A : Option Addr) (c n : Nat) (zs : List Int) (k : Int) (w : World) (h : RowC w lo hi (.slice A n c) n zs) (hn : n ≤ 2000000) (k0 : 0 ≤ k) (k1 : k ≤ 4000000000000000000) :
    Calls Try.prog 18 #[.slice A n c, .int .i64 k] w fun e w' => e = .returned (.int .i64 (k + ((n * 3 : Nat) : Int))) ∧ RowC w' lo hi (.slice A n c) n (marks k (n * 3)) ∧ w.grownBy w' (Value.slice A n c).ownBlock := by
  have hlen := h.len
  have HL := Lib.hid hlen
  have HML : Hid (∀ j, j ≤ n * 3 → (marksTo k zs j).length = n * 3) := fun j hj => by rw [marksTo_length _ _ _ (by omega), hlen]
  have HMS : Hid (∀ j, j < n → marksTo k zs ((j + 1) * 3) = (((marksTo k zs (j * 3)).set (j * 3) (k + ((j * 3 : Nat) : Int))).set (j * 3 + 1) (k + ((j * 3 : Nat) : Int) + 1)).set (j * 3 + 2) (k + ((j * 3 : Nat) : Int) + 1 + 1)) := fun j hj => by
    rw [show (j + 1) * 3 = j * 3 + 2 + 1 by omega, marksTo_succ _ _ _ (by omega), show j * 3 + 2 = j * 3 + 1 + 1 by omega, marksTo_succ _ _ _ (by omega), marksTo_succ _ _ _ (by omega)]
    congr 1
    · congr 1; omega
    · omega
  have HMF : Hid (marksTo k zs (n * 3) = marks k (n * 3)) := by have := marksTo_full k zs; rw [hlen] at this; exact this
  have H0 := Lib.hid h
  clear hlen h
  go_enter Try.func18, Try.ntmps18
  go_wp2
  go_loopw [1, 5] (fun m i wr => ∃ j : Nat, j ≤ n ∧ i = .int .i64 j ∧ m = .int .i64 (k + ((j * 3 : Nat) : Int)) ∧ RowC wr lo hi (.slice A n c) n (marksTo k zs (j * 3)) ∧ w.grownBy wr (Value.slice A n c).ownBlock) (fun _ i _ => n - (intOf i).toNat)
  case atStart => exact ⟨0, Nat.zero_le _, rfl, by simp, by rw [Nat.zero_mul, marksTo_zero]; exact H0.out, World.grownBy.refl w _⟩
  case round =>
    clear H0
    obtain ⟨j, hj, rfl, rfl, hrow, hg⟩ := hrel
    by_cases hlt : j < n
    · obtain ⟨g, rfl, _, _, d0, f0⟩ := hrow.cell_ (j := j * 3) (by rw [HML.out _ (by omega)]; omega)
      obtain ⟨g1, hg1, _, _, d1, f1⟩ := hrow.cell_ (j := j * 3 + 1) (by rw [HML.out _ (by omega)]; omega)
      obtain ⟨g2, hg2, _, _, d2, f2⟩ := hrow.cell_ (j := j * 3 + 2) (by rw [HML.out _ (by omega)]; omega)
      injection hg1 with hg1
      injection hg1 with hg1
      subst hg1
      injection hg2 with hg2
      injection hg2 with hg2
      subst hg2
      obtain ⟨y0, e0⟩ : ∃ y, (marksTo k zs (j * 3)).getD (j * 3) 0 = y := ⟨_, rfl⟩
      obtain ⟨y1, e1⟩ : ∃ y, (marksTo k zs (j * 3)).getD (j * 3 + 1) 0 = y := ⟨_, rfl⟩
      obtain ⟨y2, e2⟩ : ∃ y, (marksTo k zs (j * 3)).getD (j * 3 + 2) 0 = y := ⟨_, rfl⟩
      rw [e0] at d0
      rw [e1] at d1
      rw [e2] at d2
      have hms := HMS.out j hlt
      obtain ⟨m, hm⟩ : ∃ m : Int, k + ((j * 3 : Nat) : Int) = m := ⟨_, rfl⟩
      have hmb : 0 ≤ m ∧ m ≤ 4000000000006000000 := by omega
      have HM2 := Lib.hid (show k + (((j + 1) * 3 : Nat) : Int) = m + 1 + 1 + 1 by omega)
      rw [hm] at hms
      simp only [hm]
      have HM := Lib.hid hms
      have S1 := hrow.stored (j * 3) m
      have S2 := S1.1.stored (j * 3 + 1) (m + 1)
      have S3 := S2.1.stored (j * 3 + 2) (m + 1 + 1)
      have SR := Lib.hid S3.1
      have SG := Lib.hid (gtrans' (gtrans' (gtrans' hg S1.2) S2.2) S3.2)
      have hji : (j : Int) < (n : Int) := by omega
      clear hrow hg S1 S2 S3 hms hm e0 e1 e2
      go_wp2
      go_roundw
      case rel => exact ⟨j + 1, by omega, by go_num, by rw [HM2.out], by rw [HM.out]; exact SR.out, SG.out⟩
      case measure => simp [intOf]; omega
    · have e : j = n := by omega
      rw [e, HMF.out] at hrow
      have HR := Lib.hid hrow
      have HE := Lib.hid e
      clear hrow
      subst e
      go_wp2
      go_ret
      exact ⟨rfl, HR.out, hg⟩
set_option maxHeartbeats 800000 in
theorem heldC_same (B : Nat) (A : Option Addr) (c n : Nat) (k : Int) (w : World) (h : Sl w B A (marks k (n * 3))) (hn : n ≤ 2000000) (k0 : 0 ≤ k) (k1 : k ≤ 4000000000000000000) :
    Calls Try.prog 19 #[.slice A n c, .int .i64 k] w fun e w' => e = .returned (.int .i64 (k + ((n * 3 : Nat) : Int))) ∧ w = w' := by
  have H := Lib.hid h
  clear h
  go_enter Try.func19, Try.ntmps19
  go_wp2
  go_loop [1, 5] (fun m i => ∃ j : Nat, j ≤ n ∧ i = .int .i64 j ∧ m = .int .i64 (k + ((j * 3 : Nat) : Int))) (fun _ i => n - (intOf i).toNat)
  case atStart => exact ⟨0, Nat.zero_le _, rfl, by simp⟩
  case round =>
    obtain ⟨j, hj, rfl, rfl⟩ := hrel
    by_cases hlt : j < n
    · obtain ⟨b, off, rfl, _, hc⟩ := H.out.at_ (k := j * 3) (by rw [marks_length]; omega)
      obtain ⟨b1, off1, h1, _, hc1⟩ := H.out.at_ (k := j * 3 + 1) (by rw [marks_length]; omega)
      obtain ⟨b2, off2, h2, _, hc2⟩ := H.out.at_ (k := j * 3 + 2) (by rw [marks_length]; omega)
      injection h1 with h1
      injection h1 with h3 h4
      subst h3 h4
      injection h2 with h2
      injection h2 with h3 h4
      subst h3 h4
      rw [marks_getD _ _ _ (by omega)] at hc hc1 hc2
      rw [← Nat.add_assoc] at hc1 hc2
      rw [show k + ((j * 3 + 1 : Nat) : Int) = k + ((j * 3 : Nat) : Int) + 1 by omega] at hc1
      rw [show k + ((j * 3 + 2 : Nat) : Int) = k + ((j * 3 : Nat) : Int) + 1 + 1 by omega] at hc2
      obtain ⟨m, hm⟩ : ∃ m : Int, k + ((j * 3 : Nat) : Int) = m := ⟨_, rfl⟩
      have hmb : 0 ≤ m ∧ m ≤ 4000000000006000000 := by omega
      have HM2 := Lib.hid (show k + (((j + 1) * 3 : Nat) : Int) = m + 1 + 1 + 1 by omega)
      rw [hm] at hc hc1 hc2
      simp only [hm]
      have hji : (j : Int) < (n : Int) := by omega
      clear hm
      go_wp2
      go_round
      case rel => exact ⟨j + 1, by omega, by go_num, by rw [HM2.out]⟩
      case measure => simp [intOf]; omega
    · have e : j = n := by omega
      subst e
      go_wp2
      go_ret
      exact ⟨rfl, rfl⟩
end Go.Proofs.Ytdebnbgjnmoleaa
