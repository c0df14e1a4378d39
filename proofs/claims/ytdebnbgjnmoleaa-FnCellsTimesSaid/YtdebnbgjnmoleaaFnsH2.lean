/- Contracts: cells of matrices, the reference's. -/
import Derived.Test.YtdebnbgjnmoleaaFnsH1
import Derived.Deep.RegionLaw
namespace Go.Proofs.Ytdebnbgjnmoleaa
open Go.RowKit

/-- append of one cell, at a step of a region that draws its order. -/
theorem step_appC {w : World} {ops : Array Oper} {o : Oper} {a : Act} {K : Act → World → Prop} {Q : Exit → Act → World → Prop} {E : Prop} (hgd : o.guard = none) (s x : Operand)
    (ho : o.op = .call { callee := .builtin .append, args := #[s, x], argTypes := #[26, 26] })
    (lo hi : Nat) (v : Value) (n : Nat) (ys : List Int) (hsv : a.eval s = v) (hrow : RowC w lo hi v n ys) (g : Nat) (p q z : Int) (hx : a.eval x = .slice (some ⟨g, 0, none⟩) 1 1)
    (h0 : w.cell? ⟨g, 0, none⟩ = some (.int .i64 p)) (h1 : w.cell? ⟨g, 1, none⟩ = some (.int .i64 q)) (h2 : w.cell? ⟨g, 2, none⟩ = some (.int .i64 z))
    (hn : n ≤ 2000000) (hlo : lo ≤ w.heap.size)
    (h : ∀ v' w', RowC w' lo w'.heap.size v' (n + 1) (ys ++ [p, q, z]) → w.grownBy w' v.ownBlock → K (a.put o.dst v') w') :
    if Region.wanted o (yielded ops a.tmps) = true then Oper.wp Try.prog o a w K Q else E := by
  have hw : Region.wanted o (yielded ops a.tmps) = true := by simp [Region.wanted, hgd]
  rw [if_pos hw]
  obtain ⟨i0, hi0, hz0, hz1, hz2⟩ := info_parts info_cell
  refine wp_append_own_wide w s x 26 ho lo 59 i0 (.agg #[.int .i64 0, .int .i64 0, .int .i64 0]) 3 24 Try.underlying26 hi0 hz0 hz1 hz2 rfl (by decide) v n _ hsv hrow.1 ⟨g, 0, none⟩ 1 1 [.int .i64 p, .int .i64 q, .int .i64 z] hx rfl ?_ (by intro u hu; simp at hu; rcases hu with rfl | rfl | rfl <;> rfl) (by simp only [maxLen]; omega) (by omega) hlo ?_
  · intro j u hj
    match j, hj with
    | 0, hj => simp at hj; subst hj; simpa [Addr.add] using h0
    | 1, hj => simp at hj; subst hj; simpa [Addr.add] using h1
    | 2, hj => simp at hj; subst hj; simpa [Addr.add] using h2
  · intro v' w' h1 h2 _
    exact h v' w' ⟨by simpa using h1, fun g hg => (h1.lt g hg).2⟩ h2
theorem tdivC (k C : Nat) : Int.tdiv (k : Int) (C : Int) = ((k / C : Nat) : Int) := by simp
theorem tmodC (k C : Nat) : Int.tmod (k : Int) (C : Int) = ((k % C : Nat) : Int) := by rw [Int.tmod_eq_emod_of_nonneg (by omega)]; simp
theorem lit0C (w : World) : RowC (w.alloc (.cells #[] 59)) w.heap.size (w.heap.size + 1) (.slice (some ⟨w.heap.size, 0, none⟩) 0 0) 0 [] := ⟨World.ownsRow_lit w #[] 0 (Nat.le_refl _) (by simp [maxLen]) rfl, fun g hg => by simp [Value.ownBlock] at hg; omega⟩
set_option maxHeartbeats 1600000 in
theorem specCells_yes (r c : Nat) (A : Option Addr) (cap n B : Nat) (zs : List Int) (w : World) (hs : Sl w B A zs) (hB : B ≤ w.heap.size) (e : n = zs.length) (hm : OkM r c zs) :
    Calls Try.prog 12 #[matV r c (.slice A n cap)] w fun e w' => ∃ v, e = .returned v ∧ RowC w' w.heap.size w'.heap.size v (cellsTo c zs zs.length).length (fl (cellsTo c zs zs.length)) ∧ Below w.heap.size w w' := by
  subst e
  have hl25 := hm.len
  obtain ⟨hr1, hc1, _, _⟩ := id hm
  have HC0 : Hid (cellsTo c zs 0 = []) := rfl
  have HCZ : Hid (∀ k, zs.getD k 0 = 0 → cellsTo c zs (k + 1) = cellsTo c zs k) := fun k h => cellsTo_z h
  have HCN : Hid (∀ k, ¬ zs.getD k 0 = 0 → cellsTo c zs (k + 1) = cellsTo c zs k ++ [(((k / c : Nat) : Int), ((k % c : Nat) : Int), zs.getD k 0)]) := fun k h => cellsTo_nz h
  have HCL : Hid (∀ k, (cellsTo c zs k).length ≤ k) := fun k => cellsTo_len c zs k
  obtain ⟨C, hC⟩ : ∃ C, cellsTo c zs = C := ⟨_, rfl⟩
  rw [hC] at HC0 HCZ HCN HCL ⊢
  clear hC
  have HM := Lib.hid hm
  clear hm
  have q0 := Cell3.new w (.int .i64 r) (.int .i64 c) (.slice A zs.length cap) 28
  obtain ⟨V, hV⟩ : ∃ V, w.alloc (.cells #[.int .i64 r, .int .i64 c, .slice A zs.length cap] 28) = V := ⟨_, rfl⟩
  rw [hV] at q0
  have hbV : Below w.heap.size w V := hV ▸ (Below.refl _ _).alloc (Nat.le_refl _) _
  have hsV : V.heap.size = w.heap.size + 1 := by rw [← hV]; simp
  have r0 := lit0C V
  rw [hsV] at r0
  have q1 := q0.alloc (.cells #[] 59)
  obtain ⟨W, hW⟩ : ∃ W, V.alloc (.cells #[] 59) = W := ⟨_, rfl⟩
  have hb : Below w.heap.size w W := hW ▸ hbV.alloc (by omega) _
  have hws : W.heap.size = w.heap.size + 2 := by rw [← hW]; simp; omega
  rw [hW] at r0 q1
  have HS := Lib.hid (hs.below hb hB)
  have Q0 := Lib.hid q1
  have R0 := Lib.hid r0
  have HB := Lib.hid hb
  clear hs q0 q1 r0 hb hbV
  go_enter Try.func12, Try.ntmps12
  go_wp2
  go_loopw [3, 4] (fun s i wr => ∃ k : Nat, k ≤ zs.length ∧ i = .int .i64 k ∧ RowC wr V.heap.size wr.heap.size s (C k).length (fl (C k)) ∧ Below w.heap.size w wr ∧ Cell3 wr w.heap.size (.int .i64 r) (.int .i64 c) (.slice A zs.length cap) ∧ Sl wr B A zs ∧ W.heap.size ≤ wr.heap.size) (fun _ i _ => zs.length - (intOf i).toNat)
  case atStart => exact ⟨0, Nat.zero_le _, rfl, by rw [HC0.out]; exact R0.out.wider (show V.heap.size ≤ w.heap.size + 1 by omega) (show w.heap.size + 1 + 1 ≤ W.heap.size by omega), HB.out, Q0.out, HS.out, Nat.le_refl _⟩
  case round =>
    clear HB Q0 HS R0
    obtain ⟨k, hk, rfl, hrow, hbel, hc0c, hsl, hsz⟩ := hrel
    have HROW := Lib.hid hrow
    have HBL := Lib.hid hbel
    have H0 := Lib.hid hc0c
    have HSL := Lib.hid hsl
    obtain ⟨c0, c1, c2, _, _, _, clt⟩ := hc0c
    clear hrow hbel hsl
    by_cases hlt : k < zs.length
    · have hki : (k : Int) < (zs.length : Int) := by omega
      go_wp2_with fail
      refine (specMV_yes r c A cap _ _ zs _ HSL.out (by omega) rfl (by omega) HM.out).mono ?_
      rintro e w4 ⟨rfl, hb4⟩
      have hz4 := hb4.size
      have JROW := Lib.hid ((HROW.out.below hb4 (Nat.le_refl _)).wider (Nat.le_refl _) hz4)
      have JBL := Lib.hid (HBL.out.trans (hb4.mono (by omega)))
      have J0 := Lib.hid (H0.out.below hb4 (by omega))
      have JSL := Lib.hid (HSL.out.below hb4 (by omega))
      clear c0 c1 c2 clt HROW HBL H0 HSL hb4
      obtain ⟨c0, c1, c2, _, _, _, clt⟩ := J0.out
      obtain ⟨b, off, hA, hbB, hcz⟩ := JSL.out.at_ hlt
      subst hA
      have hZ := HCZ.out k
      have hN := HCN.out k
      have hcl := HCL.out k
      obtain ⟨z, hz⟩ : ∃ z, zs.getD k 0 = z := ⟨_, rfl⟩
      rw [hz] at hcz hZ hN
      obtain ⟨us, hus⟩ : ∃ us, C k = us := ⟨_, rfl⟩
      rw [hus] at JROW hZ hN hcl
      have HZ := Lib.hid hZ
      have HN := Lib.hid hN
      clear hZ hN hz hus
      by_cases hz0 : z = 0
      · have HZ2 := Lib.hid (HZ.out hz0)
        clear HN HZ
        subst hz0
        go_wp2
        go_roundw
        case rel => exact ⟨k + 1, by omega, by go_num, by rw [HZ2.out]; exact JROW.out, JBL.out, J0.out, JSL.out, by omega⟩
        case measure => simp [intOf]; omega
      · have HN2 := Lib.hid (HN.out hz0)
        have hzb : (z == 0) = false := by simpa using hz0
        clear HZ HN
        have hcp : 0 < c := by omega
        have hdv := tdivC k c
        have hmd := tmodC k c
        have hqb : k / c ≤ 25 := Nat.le_trans (Nat.div_le_self _ _) (by omega)
        have hmb : k % c < c := Nat.mod_lt _ hcp
        obtain ⟨q, hq⟩ : ∃ q, k / c = q := ⟨_, rfl⟩
        obtain ⟨m, hmq⟩ : ∃ m, k % c = m := ⟨_, rfl⟩
        rw [hq] at hdv HN2 hqb
        rw [hmq] at hmd HN2 hmb
        have hwq : IntKind.i64.wrap (q : Int) = (q : Int) := by rw [IntKind.wrap_i64]; omega
        have hwm : IntKind.i64.wrap (m : Int) = (m : Int) := by rw [IntKind.wrap_i64]; omega
        have hcn : ¬ c = 0 := by omega
        clear hq hmq
        have hal := World.grownBy_alloc w4 (.cells #[.int .i64 q, .int .i64 m, .int .i64 z] 59) none
        have hD : Drew (w4.alloc (.cells #[.int .i64 q, .int .i64 m, .int .i64 z] 59)) (w4.alloc (.cells #[.int .i64 q, .int .i64 m, .int .i64 z] 59)).drew := ⟨1, rfl⟩
        have hownA := ((JROW.out.grown hal (fun g e => by cases e)).wider (Nat.le_refl _) (hi' := w4.heap.size + 1) (by omega)).grown (hD.grown none) (fun g e => by cases e)
        have hbl := Lib.hid JROW.out.block_lt
        have HBA := Lib.hid ((JBL.out.alloc (by omega) (.cells #[.int .i64 q, .int .i64 m, .int .i64 z] 59)).trans (hD.below _))
        have H0A := Lib.hid ((J0.out.grown hal (by simp)).grown (hD.grown none) (by simp))
        have HSA := Lib.hid (hD.sl (JSL.out.below (B' := w4.heap.size) ((Below.refl _ w4).alloc (Nat.le_refl _) (.cells #[.int .i64 q, .int .i64 m, .int .i64 z] 59)) (by omega)))
        have KN := (Cell3.new w4 (.int .i64 q) (.int .i64 m) (.int .i64 z) 59).grown (hD.grown none) (by simp)
        have hcl2 : us.length ≤ 2000000 := by omega
        have hlo2 : V.heap.size ≤ (w4.alloc (.cells #[.int .i64 q, .int .i64 m, .int .i64 z] 59)).drew.heap.size := by
          show V.heap.size ≤ (w4.alloc _).heap.size
          simp; omega
        have hHL := Lib.hid (And.intro KN (And.intro hcl2 hlo2))
        clear hal hD KN hcl2 hlo2
        go_wp2
        go_region_law (first | (refine step_appC (by rfl) (.tmp 23) (.tmp 38) (by rfl) V.heap.size (w4.heap.size + 1) _ us.length (fl us) (by rfl) hownA w4.heap.size q m z (by rfl) hHL.out.1.c0 hHL.out.1.c1 hHL.out.1.c2 hHL.out.2.1 hHL.out.2.2 ?_; intro v5 w5 hr5 hg5))
        all_goals (
          have hne : ∀ b, b < V.heap.size → some b ≠ Value.ownBlock _ := fun b hb e => by have := (hbl.out b e.symm).1; omega
          have JR := Lib.hid (show RowC w5 V.heap.size w5.heap.size v5 (us ++ [((q : Int), (m : Int), z)]).length (fl (us ++ [((q : Int), (m : Int), z)])) by rw [fl_app, List.length_append]; exact hr5)
          have JB := Lib.hid (HBA.out.grown hg5 (show w.heap.size ≤ (w4.alloc _).heap.size by simp; omega) (fun g e => by have := (hbl.out g e).1; omega))
          have J0 := Lib.hid (H0A.out.grown hg5 (hne _ (by omega)))
          have JS := Lib.hid (HSA.out.keep (w' := w5) (fun p hp => World.cell?_of_block (hg5.block _ (show p.block < (w4.alloc _).heap.size by simp; omega) (hne _ (by omega)))))
          have hsz5 : (w4.alloc (.cells #[.int .i64 q, .int .i64 m, .int .i64 z] 59)).heap.size ≤ w5.heap.size := hg5.size
          clear hr5 hg5 hne
          go_wp2
          go_roundw
          case rel => exact ⟨k + 1, by omega, by go_num, by rw [HN2.out]; exact JR.out, JB.out, J0.out, JS.out, by simp at hsz5; omega⟩
          case measure => simp [intOf]; omega)
    · have e : k = zs.length := by omega
      subst e
      go_wp2
      go_ret
      exact ⟨_, rfl, HROW.out.wider (by omega) (Nat.le_refl _), HBL.out⟩
set_option maxHeartbeats 400000 in
theorem specCells_no (r c : Int) (A : Option Addr) (cap n B : Nat) (zs : List Int) (w : World) (hs : Sl w B A zs) (hB : B ≤ w.heap.size) (e : n = zs.length) (hn : n ≤ 1100000) (hm : ¬ OkM r c zs) :
    Calls Try.prog 12 #[matV r c (.slice A n cap)] w fun e w' => ∃ v, e = .returned v ∧ RowC w' w.heap.size w'.heap.size v 0 [] ∧ Below w.heap.size w w' := by
  subst e
  have q0 := Cell3.new w (.int .i64 r) (.int .i64 c) (.slice A zs.length cap) 28
  obtain ⟨V, hV⟩ : ∃ V, w.alloc (.cells #[.int .i64 r, .int .i64 c, .slice A zs.length cap] 28) = V := ⟨_, rfl⟩
  rw [hV] at q0
  have hbV : Below w.heap.size w V := hV ▸ (Below.refl _ _).alloc (Nat.le_refl _) _
  have hsV : V.heap.size = w.heap.size + 1 := by rw [← hV]; simp
  have r0 := lit0C V
  rw [hsV] at r0
  have q1 := q0.alloc (.cells #[] 59)
  obtain ⟨W, hW⟩ : ∃ W, V.alloc (.cells #[] 59) = W := ⟨_, rfl⟩
  have hb : Below w.heap.size w W := hW ▸ hbV.alloc (by omega) _
  have hws : W.heap.size = w.heap.size + 2 := by rw [← hW]; simp; omega
  rw [hW] at r0 q1
  have HS := Lib.hid (hs.below hb hB)
  have HM := Lib.hid hm
  have R0 := Lib.hid (r0.wider (show w.heap.size ≤ w.heap.size + 1 by omega) (show w.heap.size + 1 + 1 ≤ W.heap.size by omega))
  have HB := Lib.hid hb
  clear hs q0 r0 hb hbV hm
  obtain ⟨c0, c1, c2, _, _, _, clt⟩ := q1
  go_enter Try.func12, Try.ntmps12
  go_wp2
  go_loopw [3, 4] (fun s i wr => i = .int .i64 0 ∧ s = .slice (some ⟨w.heap.size + 1, 0, none⟩) 0 0 ∧ wr = W) (fun _ i _ => zs.length - (intOf i).toNat)
  case atStart => exact ⟨rfl, rfl, rfl⟩
  case round =>
    obtain ⟨rfl, rfl, rfl⟩ := hrel
    by_cases hlt : 0 < zs.length
    · have hki : (0 : Int) < (zs.length : Int) := by omega
      go_wp2_with fail
      refine (specMV_no r c A cap _ _ zs _ HS.out (by omega) rfl (by omega) HM.out).mono ?_
      rintro e w4 ⟨rfl, hb4⟩
      have R4 := Lib.hid ((R0.out.below hb4 (Nat.le_refl _)).wider (Nat.le_refl _) hb4.size)
      have HB4 := Lib.hid (HB.out.trans (hb4.mono (by omega)))
      clear hb4
      go_wp2
      go_ret
      exact ⟨_, rfl, R4.out, HB4.out⟩
    · have hki : ¬ (0 : Int) < (zs.length : Int) := by omega
      go_wp2
      go_ret
      exact ⟨_, rfl, R0.out, HB.out⟩
theorem specCells_any (r c : Int) (A : Option Addr) (cap n B : Nat) (zs : List Int) (w : World) (hs : Sl w B A zs) (hB : B ≤ w.heap.size) (e : n = zs.length) (hn : n ≤ 1100000) :
    Calls Try.prog 12 #[matV r c (.slice A n cap)] w fun e w' => ∃ v, e = .returned v ∧ RowC w' w.heap.size w'.heap.size v (cOf r c zs).length (fl (cOf r c zs)) ∧ Below w.heap.size w w' := by
  unfold cOf
  by_cases h : OkM r c zs
  · rw [if_pos h]
    have h1 := h.1
    have h2 := h.2.1
    obtain ⟨rn, rfl⟩ := Int.eq_ofNat_of_zero_le (show 0 ≤ r by omega)
    obtain ⟨cn, rfl⟩ := Int.eq_ofNat_of_zero_le (show 0 ≤ c by omega)
    exact specCells_yes rn cn A cap n B zs w hs hB e h
  · rw [if_neg h]
    exact specCells_no r c A cap n B zs w hs hB e hn h
end Go.Proofs.Ytdebnbgjnmoleaa
