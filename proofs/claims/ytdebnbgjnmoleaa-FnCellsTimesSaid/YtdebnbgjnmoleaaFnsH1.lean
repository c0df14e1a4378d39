/- Contracts: cells of matrices, the program's. -/
import Derived.Test.YtdebnbgjnmoleaaRowLen
import Derived.Test.YtdebnbgjnmoleaaListsC
namespace Go.Proofs.Ytdebnbgjnmoleaa
open Go.RowKit

open Classical in
/-- The cells of a matrix; none if it is not valid. -/
noncomputable def cOf (r c : Int) (zs : List Int) : List Tri := if OkM r c zs then cellsTo c.toNat zs zs.length else []
theorem cellsTo_z {c k : Nat} {zs : List Int} (h : zs.getD k 0 = 0) : cellsTo c zs (k + 1) = cellsTo c zs k := by
  unfold cellsTo; rw [if_pos h, List.append_nil]; cases k <;> rfl
theorem cellsTo_nz {c k : Nat} {zs : List Int} (h : ¬ zs.getD k 0 = 0) : cellsTo c zs (k + 1) = cellsTo c zs k ++ [(((k / c : Nat) : Int), ((k % c : Nat) : Int), zs.getD k 0)] := by
  conv => lhs; unfold cellsTo
  rw [if_neg h]
set_option maxHeartbeats 1600000 in
theorem implCells_yes (r c : Nat) (A : Option Addr) (cap n B : Nat) (zs : List Int) (w : World) (hs : Sl w B A zs) (hB : B ≤ w.heap.size) (e : n = zs.length) (hnc : n ≤ cap) (hcm : cap ≤ maxLen) (hm : OkM r c zs) :
    Calls Try.prog 14 #[matV r c (.slice A n cap)] w fun e w' => ∃ v, e = .returned v ∧ RowC w' w.heap.size w'.heap.size v (cellsTo c zs zs.length).length (fl (cellsTo c zs zs.length)) ∧ Below w.heap.size w w' := by
  subst e
  have hlen : zs.length = r * c := by have := hm.2.2.1; exact_mod_cast this
  have hl25 := hm.len
  obtain ⟨hr1, hc1, _, _⟩ := id hm
  have HC0 : Hid (cellsTo c zs 0 = []) := rfl
  have HCZ : Hid (∀ k j, j < c → zs.getD (k * c + j) 0 = 0 → cellsTo c zs (k * c + j + 1) = cellsTo c zs (k * c + j)) := fun k j _ h => cellsTo_z h
  have HCN : Hid (∀ k j, j < c → ¬ zs.getD (k * c + j) 0 = 0 → cellsTo c zs (k * c + j + 1) = cellsTo c zs (k * c + j) ++ [((k : Int), (j : Int), zs.getD (k * c + j) 0)]) := fun k j hj h => by
    have e1 : (k * c + j) / c = k := by rw [Nat.mul_comm, Nat.mul_add_div (by omega), Nat.div_eq_of_lt hj, Nat.add_zero]
    have e2 : (k * c + j) % c = j := by rw [Nat.mul_comm, Nat.mul_add_mod, Nat.mod_eq_of_lt hj]
    rw [cellsTo_nz h, e1, e2]
  have HCL : Hid (∀ k, (cellsTo c zs k).length ≤ k) := fun k => cellsTo_len c zs k
  obtain ⟨C, hC⟩ : ∃ C, cellsTo c zs = C := ⟨_, rfl⟩
  rw [hC] at HC0 HCZ HCN HCL ⊢
  clear hC
  have HM := Lib.hid hm
  have HLEN := Lib.hid hlen
  clear hm hlen
  have q0 := Cell3.new w (.int .i64 r) (.int .i64 c) (.slice A zs.length cap) 28
  obtain ⟨W, hW⟩ : ∃ W, w.alloc (.cells #[.int .i64 r, .int .i64 c, .slice A zs.length cap] 28) = W := ⟨_, rfl⟩
  have hb : Below w.heap.size w W := hW ▸ (Below.refl _ _).alloc (Nat.le_refl _) _
  have hws : W.heap.size = w.heap.size + 1 := by rw [← hW]; simp
  rw [hW] at q0
  have HS := Lib.hid (hs.below hb hB)
  have Q0 := Lib.hid q0
  obtain ⟨a0, a1, a2, f0, f1, f2, alt⟩ := q0
  clear hs
  go_enter Try.func14, Try.ntmps14
  go_wp2_with fail
  refine (implMV_yes r c A cap _ B zs W HS.out (by omega) rfl (by omega) HM.out).mono ?_
  rintro e w2 ⟨rfl, hb2⟩
  have hs2 := hb2.size
  have HS2 := Lib.hid (HS.out.below hb2 (by omega))
  have HQ0 := Lib.hid (Q0.out.below hb2 (by omega))
  have HB := Lib.hid (hb.trans (hb2.mono (by omega)))
  clear hb hb2 a0 a1 a2 f0 f1 f2 alt Q0 HS
  obtain ⟨c0, c1, c2, _, _, _, clt⟩ := HQ0.out
  go_wp2
  clear c0 c1 c2 clt
  go_loopw [3, 12] (fun s i wr => ∃ k : Nat, k ≤ r ∧ i = .int .i64 k ∧ RowC wr W.heap.size wr.heap.size s (C (k * c)).length (fl (C (k * c))) ∧ Below w.heap.size w wr ∧ Cell3 wr w.heap.size (.int .i64 r) (.int .i64 c) (.slice A zs.length cap) ∧ Sl wr B A zs ∧ W.heap.size ≤ wr.heap.size) (fun _ i _ => r - (intOf i).toNat)
  case atStart => exact ⟨0, Nat.zero_le _, rfl, by rw [Nat.zero_mul, HC0.out]; exact RowC.nil_ _ _ _, HB.out, HQ0.out, HS2.out, hs2⟩
  case round =>
    clear HB HQ0 HS2
    obtain ⟨k, hk, rfl, hrow, hbel, hc0c, hsl, hsz⟩ := hrel
    by_cases hlt : k < r
    · have hkc : k * c + c ≤ zs.length := by rw [HLEN.out]; have : (k + 1) * c ≤ r * c := Nat.mul_le_mul_right _ (by omega); rw [Nat.add_mul] at this; omega
      have hkci : (k : Int) * (c : Int) = ((k * c : Nat) : Int) := by simp
      have hkc1 := Lib.hid (show (k + 1) * c = k * c + c by rw [Nat.add_mul, Nat.one_mul])
      have HCZk := Lib.hid fun j hj => HCZ.out k j hj
      have HCNk := Lib.hid fun j hj => HCN.out k j hj
      obtain ⟨L, hL⟩ : ∃ L, k * c = L := ⟨_, rfl⟩
      rw [hL] at hkc hkci hkc1 HCZk HCNk hrow
      clear hL
      obtain ⟨b, off, hA, hbB, _⟩ := hsl.at_ (k := 0) (by omega)
      subst hA
      have hcM := Lib.hid fun wx => rowOf_lenF r c k b off zs.length cap L c wx hkci rfl (by omega) hkc hnc (by unfold maxLen at hcm; omega) (by omega)
      have hki : (k : Int) < (r : Int) := by omega
      have HROW := Lib.hid hrow
      have HBL := Lib.hid hbel
      have H0 := Lib.hid hc0c
      have HSL := Lib.hid hsl
      obtain ⟨c0, c1, c2, _, _, _, clt⟩ := hc0c
      clear hrow hbel hsl hkci
      go_wp2_with fail
      refine (hcM.out _).mono ?_
      rintro e w4 ⟨cp, rfl, hcp, hcp', hb4⟩
      have hz4 := hb4.size
      have JROW := Lib.hid ((HROW.out.below hb4 (Nat.le_refl _)).wider (Nat.le_refl _) hz4)
      have JBL := Lib.hid (HBL.out.trans (hb4.mono (by omega)))
      have J0 := Lib.hid (H0.out.below hb4 (by omega))
      have JSL := Lib.hid (HSL.out.below hb4 (by omega))
      clear c0 c1 c2 clt HROW HBL H0 HSL hb4 hcM
      go_wp2
      obtain ⟨wo, hwo⟩ : ∃ wo, wo = wr := ⟨_, rfl⟩
      go_loopw [3, 19] (fun s i wr => ∃ j : Nat, j ≤ c ∧ i = .int .i64 j ∧ RowC wr W.heap.size wr.heap.size s (C (L + j)).length (fl (C (L + j))) ∧ Below w.heap.size w wr ∧ Cell3 wr w.heap.size (.int .i64 r) (.int .i64 c) (.slice (some ⟨b, off, none⟩) zs.length cap) ∧ Sl wr B (some ⟨b, off, none⟩) zs ∧ W.heap.size ≤ wr.heap.size) (fun _ i _ => c - (intOf i).toNat)
      case atStart => exact ⟨0, Nat.zero_le _, rfl, JROW.out, JBL.out, J0.out, JSL.out, by omega⟩
      case round =>
        clear JROW JBL J0 JSL hwo hz4 hsz
        clear wo
        obtain ⟨j, hj, rfl, hrow, hbel, hc0c, hsl, hsz⟩ := hrel
        by_cases hjlt : j < c
        · obtain ⟨b', off', h1, _, hcz⟩ := hsl.at_ (k := L + j) (by omega)
          injection h1 with h1
          injection h1 with h3 h4
          subst h3 h4
          rw [← Nat.add_assoc] at hcz
          have hZ := HCZk.out j hjlt
          have hN := HCNk.out j hjlt
          have hcl := HCL.out (L + j)
          obtain ⟨z, hz⟩ : ∃ z, zs.getD (L + j) 0 = z := ⟨_, rfl⟩
          rw [hz] at hcz hZ hN
          obtain ⟨us, hus⟩ : ∃ us, C (L + j) = us := ⟨_, rfl⟩
          rw [hus] at hrow hZ hN hcl
          have HZ := Lib.hid hZ
          have HN := Lib.hid hN
          have hji : (j : Int) < (c : Int) := by omega
          have HROW := Lib.hid hrow
          have HBL := Lib.hid hbel
          have H0 := Lib.hid hc0c
          have HSL := Lib.hid hsl
          obtain ⟨c0, c1, c2, _, _, _, clt⟩ := hc0c
          clear hrow hbel hsl hZ hN hz hus
          by_cases hz0 : z = 0
          · have HZ2 := Lib.hid (HZ.out hz0)
            clear HN HZ
            subst hz0
            go_wp2
            go_roundw
            case rel => exact ⟨j + 1, by omega, by go_num, by rw [← Nat.add_assoc, HZ2.out]; exact HROW.out, HBL.out, H0.out, HSL.out, hsz⟩
            case measure => simp [intOf]; omega
          · have HN := Lib.hid (HN.out hz0)
            have hzb : (z == 0) = false := by simpa using hz0
            clear HZ
            have hal := World.grownBy_alloc wr (.cells #[.int .i64 k, .int .i64 j, .int .i64 z] 59) none
            have hownA := (HROW.out.grown hal (fun g e => by cases e)).wider (Nat.le_refl _) (hi' := wr.heap.size + 1) (by omega)
            have hbl := Lib.hid HROW.out.block_lt
            have HBA := Lib.hid (HBL.out.alloc (by omega) (.cells #[.int .i64 k, .int .i64 j, .int .i64 z] 59))
            have H0A := Lib.hid (H0.out.grown hal (by simp))
            have HSA := Lib.hid (HSL.out.below (B' := wr.heap.size) ((Below.refl _ wr).alloc (Nat.le_refl _) (.cells #[.int .i64 k, .int .i64 j, .int .i64 z] 59)) (by omega))
            have KN := Cell3.new wr (.int .i64 k) (.int .i64 j) (.int .i64 z) 59
            clear hal
            go_wp2_with (
              at_builtin
              go_loud (refine wpList_appC rfl (.tmp 26) (.tmp 31) rfl W.heap.size (wr.heap.size + 1) _ us.length (fl us) rfl hownA wr.heap.size k j z rfl KN.c0 KN.c1 KN.c2 (by omega) (by simp; omega) ?_)
              intro v5 w5 hr5 hg5
              go_loud (
                have hne : ∀ b, b < W.heap.size → some b ≠ Value.ownBlock _ := fun b hb e => by have := (hbl.out b e.symm).1; omega
                have JR := Lib.hid (show RowC w5 W.heap.size w5.heap.size v5 (us ++ [((k : Int), (j : Int), z)]).length (fl (us ++ [((k : Int), (j : Int), z)])) by rw [fl_app, List.length_append]; exact hr5)
                have JB := Lib.hid (HBA.out.grown hg5 (by simp; omega) (fun g e => by have := (hbl.out g e).1; omega))
                have J0 := Lib.hid (H0A.out.grown hg5 (hne _ (by omega)))
                have JS := Lib.hid (HSA.out.keep (w' := w5) (fun p hp => World.cell?_of_block (hg5.block _ (by simp; omega) (hne _ (by omega)))))
                have hsz5 := hg5.size
                clear hr5 hg5 hne))
            go_roundw
            case rel => exact ⟨j + 1, by omega, by go_num, by rw [← Nat.add_assoc, HN.out]; exact JR.out, JB.out, J0.out, JS.out, by simp at hsz5; omega⟩
            case measure => simp [intOf]; omega
        · have e : j = c := by omega
          have HROW := Lib.hid hrow
          have HBL := Lib.hid hbel
          have H0 := Lib.hid hc0c
          have HSL := Lib.hid hsl
          have HE := Lib.hid e
          have hjd : decide ((j : Int) < (c : Int)) = false := by simp; omega
          clear hrow hbel hc0c hsl e
          go_wp2
          go_roundw
          case rel => exact ⟨k + 1, by omega, by go_num, by rw [hkc1.out, ← HE.out]; exact HROW.out, HBL.out, H0.out, HSL.out, hsz⟩
          case measure => simp [intOf]; omega
    · have e : k = r := by omega
      subst e
      rw [← HLEN.out] at hrow
      have HR := Lib.hid hrow
      clear hrow hc0c hsl
      go_wp2
      go_ret
      exact ⟨_, rfl, HR.out.wider (by omega) (Nat.le_refl _), hbel⟩
theorem implCells_no (r c : Int) (A : Option Addr) (cap n B : Nat) (zs : List Int) (w : World) (hs : Sl w B A zs) (hB : B ≤ w.heap.size) (e : n = zs.length) (hn : n ≤ 1100000) (hm : ¬ OkM r c zs) :
    Calls Try.prog 14 #[matV r c (.slice A n cap)] w fun e w' => e = .returned (.slice none 0 0) ∧ Below w.heap.size w w' := by
  subst e
  have q0 := Cell3.new w (.int .i64 r) (.int .i64 c) (.slice A zs.length cap) 28
  obtain ⟨W, hW⟩ : ∃ W, w.alloc (.cells #[.int .i64 r, .int .i64 c, .slice A zs.length cap] 28) = W := ⟨_, rfl⟩
  have hb : Below w.heap.size w W := hW ▸ (Below.refl _ _).alloc (Nat.le_refl _) _
  have hws : W.heap.size = w.heap.size + 1 := by rw [← hW]; simp
  rw [hW] at q0
  have HS := Lib.hid (hs.below hb hB)
  have HM := Lib.hid hm
  obtain ⟨a0, a1, a2, f0, f1, f2, alt⟩ := q0
  clear hs hm
  go_enter Try.func14, Try.ntmps14
  go_wp2_with fail
  refine (implMV_no r c A cap _ B zs W HS.out (by omega) rfl (by omega) HM.out).mono ?_
  rintro e w2 ⟨rfl, hb2⟩
  go_wp2
  go_ret
  exact ⟨rfl, hb.trans (hb2.mono (by omega))⟩
theorem implCells_any (r c : Int) (A : Option Addr) (cap n B : Nat) (zs : List Int) (w : World) (hs : Sl w B A zs) (hB : B ≤ w.heap.size) (e : n = zs.length) (hn : n ≤ 1100000) (hnc : n ≤ cap) (hcm : cap ≤ maxLen) :
    Calls Try.prog 14 #[matV r c (.slice A n cap)] w fun e w' => ∃ v, e = .returned v ∧ RowC w' w.heap.size w'.heap.size v (cOf r c zs).length (fl (cOf r c zs)) ∧ Below w.heap.size w w' := by
  unfold cOf
  by_cases h : OkM r c zs
  · rw [if_pos h]
    have h1 := h.1
    have h2 := h.2.1
    obtain ⟨rn, rfl⟩ := Int.eq_ofNat_of_zero_le (show 0 ≤ r by omega)
    obtain ⟨cn, rfl⟩ := Int.eq_ofNat_of_zero_le (show 0 ≤ c by omega)
    exact implCells_yes rn cn A cap n B zs w hs hB e hnc hcm h
  · rw [if_neg h]
    exact (implCells_no r c A cap n B zs w hs hB e hn h).mono fun e w' ⟨h1, h2⟩ => ⟨_, h1, RowC.nil_ _ _ _, h2⟩
theorem cOf_len (r c : Int) (zs : List Int) : (cOf r c zs).length ≤ zs.length := by
  unfold cOf
  split
  · exact cellsTo_len _ _ _
  · simp
end Go.Proofs.Ytdebnbgjnmoleaa
