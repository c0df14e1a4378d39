/- Contract of the drawing function of orders. -/
import Derived.Test.YtilmglockldddaaDrawA
import Derived.Test.YtilmglockldddaaDrawSig
import Derived.Test.YtilmglockldddaaFnsD4
import Derived.Deep.RegionHeld3
import Derived.Deep.Cut
import Derived.Deep.CutRange
import Derived.Deep.DeepCutAuto
namespace Go.Proofs.Ytilmglockldddaa
open Go.RowKit

theorem lit0 (w : World) : Row (w.alloc (.cells #[] 3)) w.heap.size (w.heap.size + 1) (.slice (some ⟨w.heap.size, 0, none⟩) 0 0) [] := lit0M w
theorem drew1 (w : World) : Drew w w.drew := ⟨1, rfl⟩
/-- append of a list, at a step of a region that draws its order: whatever comes of it. -/
theorem step_appG {w : World} {ops : Array Oper} {o : Oper} {a : Act} {K : Act → World → Prop} {Q : Exit → Act → World → Prop} {E : Prop} (hgd : o.guard = none) (s x : Operand)
    (ho : o.op = .call { callee := .builtin .append, args := #[s, x], argTypes := #[22, 22] })
    (lo hi : Nat) (v : Value) (ys : List Int) (hsv : a.eval s = v) (hrow : Row w lo hi v ys) (B : Nat) (A : Option Addr) (m c : Nat) (xs : List Int) (hx : a.eval x = .slice A m c) (hxl : xs.length = m) (hs : Sl w B A xs)
    (hn : ys.length + m ≤ 2000000) (hlo : lo ≤ w.heap.size)
    (h : ∀ v' w', Row w' lo w'.heap.size v' (ys ++ xs) → w.grownBy w' v.ownBlock → K (a.put o.dst v') w') :
    if Region.wanted o (yielded ops a.tmps) = true then Oper.wp Try.prog o a w K Q else E := by
  have hw : Region.wanted o (yielded ops a.tmps) = true := by simp [Region.wanted, hgd]
  rw [if_pos hw]
  subst hxl
  refine wp_append_sl w s x 22 ho Try.underlying22 lo v ys.length _ hsv hrow.1 B A c xs hx hs (by simp only [maxLen]; omega) (by omega) hlo fun v' w' h2 h3 h4 => ?_
  rw [← List.map_append] at h2
  exact h v' w' ⟨by simpa using h2, fun g' hg' => (h2.lt g' hg').2⟩ h3
theorem Sl.drop {w : World} {B b off : Nat} {zs : List Int} (h : Sl w B (some ⟨b, off, none⟩) zs) (n : Nat) (A : Option Addr) (hA : n < zs.length → A = some ⟨b, off + n, none⟩) (hb : n < zs.length → b < B) : Sl w B A (zs.drop n) := by
  by_cases hn : n < zs.length
  · refine ⟨b, off + n, fun _ => ⟨hA hn, hb hn⟩, fun j hj => ?_⟩
    obtain ⟨b', off', h1, _, h2⟩ := h.at_ (k := n + j) (by simp at hj; omega)
    injection h1 with h1
    injection h1 with h3 h4
    subst h3 h4
    rw [show off + n + j = off + (n + j) by omega, h2]
    simp [List.getD_eq_getElem?_getD, List.getElem?_drop]
  · rw [List.drop_eq_nil_of_le (by omega)]
    exact Sl.empty _ _ _
theorem Sl.takeD {w : World} {B : Nat} {A : Option Addr} {zs : List Int} (h : Sl w B A zs) (n : Nat) (hn : n ≤ zs.length) : Sl w B A (zs.take n) := by
  obtain ⟨b, off, h1, h2⟩ := h
  refine ⟨b, off, fun hp => h1 (by simp at hp; omega), fun j hj => ?_⟩
  have hj' : j < n := by simp at hj; omega
  rw [h2 j (by omega)]
  simp [hj']
set_option maxRecDepth 20000 in
set_option maxHeartbeats 3200000 in
theorem l20Order_any (R N many : Nat) (n : Int) (w : World) (hR : Rd w R N) (hN : N ≤ 80000000) (hm : many ≤ 7) (n0 : 1 ≤ n) (n1 : n ≤ 1000) :
    Calls Try.prog 40 #[.pointer (some ⟨R, 0, none⟩), .int .i64 many, .int .i64 n] w fun e w' => ∃ (A : Option Addr) (m c : Nat) (zs : List Int), e = .returned (.slice A m c) ∧ zs.length = m ∧ m ≤ c ∧ c ≤ maxLen ∧ Sl w' w'.heap.size A zs ∧ (m ≤ 8 ∧ ∀ a, A = some a → w.heap.size ≤ a.block) ∧ w.grownBy w' (some R) ∧ Rd w' R (N + 20) := by
  have hRlt := hR.lt
  go_enter Try.func40, Try.ntmps40
  have hown0 := lit0 w
  have hR0 := hR.alloc (.cells #[] 3)
  have hg0 : w.grownBy (w.alloc (.cells #[] 3)) (some R) := World.grownBy_alloc w _ _
  have hmi : (many : Int) ≤ 7 := by omega
  go_wp2
  go_loopw [7, 8] (fun v i wr => ∃ (k g c : Nat) (zs : List Int), k ≤ many ∧ i = .int .i64 k ∧ v = .slice (some ⟨g, 0, none⟩) k c ∧ zs.length = k ∧ Row wr w.heap.size wr.heap.size (.slice (some ⟨g, 0, none⟩) k c) zs ∧ w.grownBy wr (some R) ∧ Rd wr R (N + k)) (fun _ i _ => many - (intOf i).toNat)
  case atStart => exact ⟨0, w.heap.size, 0, [], Nat.zero_le _, rfl, rfl, rfl, hown0.wider (Nat.le_refl _) (by simp), hg0, hR0⟩
  case round =>
    clear hown0 hR0 hg0
    obtain ⟨k, g, c, zs, hk, rfl, rfl, hzl, hrow, hgr, hRr⟩ := hrel
    by_cases hlt : k < many
    · have HR := Lib.hid hrow
      have HZL := Lib.hid hzl
      have hki : (k : Int) < (many : Int) := by omega
      clear hrow hzl
      go_wp2_with fail
      refine (pick_pos R (N + k) (k + 1) wr hRr (by omega) (by omega)).mono ?_
      rintro e o ⟨z, rfl, z0, z1, hR1, hg1⟩
      obtain ⟨at', rfl⟩ := Int.eq_ofNat_of_zero_le z0
      have hatk : at' ≤ k := by omega
      have hs1 := hg1.size
      have hsw := hgr.size
      have hrow1 := (HR.out.grown hg1 (fun g' e => by cases e; left; omega)).wider (Nat.le_refl _) (hi' := o.heap.size) hs1
      have hgr1 := gtrans hgr hg1
      obtain ⟨A', c', hv', hkc, hcm, hsl⟩ := hrow1.form
      injection hv' with h1 h2 h3
      subst h1 h3
      clear h2
      rw [HZL.out] at hkc
      have hgb := hrow1.block_lt g rfl
      have hT := Lib.hid (hsl.takeD at' (by rw [HZL.out]; exact hatk))
      have hTl := Lib.hid (show (zs.take at').length = at' by have := HZL.out; simp; omega)
      have hDl := Lib.hid (show (zs.drop at').length = k - at' by have := HZL.out; simp; omega)
      have hDr := Lib.hid fun wx (h : Sl wx o.heap.size (some ⟨g, 0, none⟩) zs) A (hA : at' < k → A = some ⟨g, at', none⟩) => h.drop (A := A) at' (fun h => by have := hA (by have := HZL.out; omega); simpa using this) (fun _ => hgb.2)
      have hSL := Lib.hid hsl
      have HG := Lib.hid hgr1
      have HRd := Lib.hid hR1
      have hoz : w.heap.size ≤ o.heap.size := hgr1.size
      have hkc' : (k : Int) ≤ (c : Int) := by omega
      have hai : (at' : Int) ≤ (k : Int) := by omega
      have hac : (at' : Int) ≤ (c : Int) := by omega
      clear HR hRr hg1 hgr hrow1 hsl hR1 hgr1 z0 z1
      -- the three worlds of the first append
      have w1F := Lib.hid ((drew1 (o.alloc (.cells #[] 3))).row (lit0 o))
      have w1S := Lib.hid ((drew1 (o.alloc (.cells #[] 3))).sl (hT.out.below ((Below.refl o.heap.size o).alloc (Nat.le_refl _) (.cells #[] 3)) (Nat.le_refl _)))
      have w1D := Lib.hid ((drew1 (o.alloc (.cells #[] 3))).sl (hSL.out.below ((Below.refl o.heap.size o).alloc (Nat.le_refl _) (.cells #[] 3)) (Nat.le_refl _)))
      have b2 : Below o.heap.size o ((o.alloc (.cells #[] 3)).alloc (.cells #[.int .i64 k] 3)) := ((Below.refl o.heap.size o).alloc (Nat.le_refl _) _).alloc (by simp) _
      have b3 : Below o.heap.size o ((o.alloc (.cells #[.int .i64 k] 3)).alloc (.cells #[] 3)) := ((Below.refl o.heap.size o).alloc (Nat.le_refl _) _).alloc (by simp) _
      have w2F := Lib.hid ((drew1 _).row ((lit0 o).grown (World.grownBy_alloc _ (.cells #[.int .i64 k] 3) none) (fun g e => by cases e)))
      have w2S := Lib.hid ((drew1 _).sl (hT.out.below b2 (Nat.le_refl _)))
      have w2D := Lib.hid ((drew1 _).sl (hSL.out.below b2 (Nat.le_refl _)))
      have w2K : ((o.alloc (.cells #[] 3)).alloc (.cells #[.int .i64 k] 3)).drew.cell? ⟨o.heap.size + 1, 0, none⟩ = some (.int .i64 k) := by
        have : ((o.alloc (.cells #[] 3)).alloc (.cells #[.int .i64 k] 3)).cell? ⟨(o.alloc (.cells #[] 3)).heap.size, 0, none⟩ = some (.int .i64 k) := World.cell?_alloc_at _ _ _ _ rfl
        rw [World.size_alloc] at this
        exact this
      have w3F : Hid (Row ((o.alloc (.cells #[.int .i64 k] 3)).alloc (.cells #[] 3)).drew o.heap.size (o.heap.size + 1 + 1) (.slice (some ⟨o.heap.size + 1, 0, none⟩) 0 0) []) := Lib.hid (by
        have := ((drew1 _).row (lit0 (o.alloc (.cells #[.int .i64 k] 3)))).wider (lo' := o.heap.size) (by simp) (Nat.le_refl _)
        rw [World.size_alloc] at this
        exact this)
      have w3S := Lib.hid ((drew1 _).sl (hT.out.below b3 (Nat.le_refl _)))
      have w3D := Lib.hid ((drew1 _).sl (hSL.out.below b3 (Nat.le_refl _)))
      have w3K : ((o.alloc (.cells #[.int .i64 k] 3)).alloc (.cells #[] 3)).drew.cell? ⟨o.heap.size, 0, none⟩ = some (.int .i64 k) := by
        have : (o.alloc (.cells #[.int .i64 k] 3)).cell? ⟨o.heap.size, 0, none⟩ = some (.int .i64 k) := World.cell?_alloc_at _ _ _ _ rfl
        exact ((World.grownBy_alloc (o.alloc (.cells #[.int .i64 k] 3)) (.cells #[] 3) none).cell this (by simp))
      have b1 : Below o.heap.size o (o.alloc (.cells #[] 3)) := (Below.refl o.heap.size o).alloc (Nat.le_refl _) _
      have B1 := Lib.hid (b1.trans ((drew1 _).below _))
      have B2 := Lib.hid (b2.trans ((drew1 _).below _))
      have B3 := Lib.hid (b3.trans ((drew1 _).below _))
      clear b1 b2 b3
      go_upto_region 6 with fail
      go_region_held3 (fun _ => True)
        (trivial)
        (first
          | (refine step_appG rfl (.tmp 21) (.tmp 24) rfl o.heap.size (o.heap.size + 1) (.slice (some ⟨o.heap.size, 0, none⟩) 0 0) [] rfl w1F.out o.heap.size (some ⟨g, 0, none⟩) at' c (zs.take at') rfl hTl.out w1S.out (by have := hTl.out; simp; omega) (by first | (simp; done) | (simp; omega)) ?_; intro v5 w5 hr5 hg5; have hcur := B1.out.grown hg5 (by first | (simp; done) | (simp; omega)) (fun g e => by cases e; exact Nat.le_refl _); have hbl5 := Lib.hid hr5.block_lt; rw [List.nil_append] at hr5)
          | (refine step_appG rfl (.tmp 21) (.tmp 24) rfl o.heap.size (o.heap.size + 1) (.slice (some ⟨o.heap.size, 0, none⟩) 0 0) [] rfl w2F.out o.heap.size (some ⟨g, 0, none⟩) at' c (zs.take at') rfl hTl.out w2S.out (by have := hTl.out; simp; omega) (by first | (simp; done) | (simp; omega)) ?_; intro v5 w5 hr5 hg5; have hcur := B2.out.grown hg5 (by first | (simp; done) | (simp; omega)) (fun g e => by cases e; exact Nat.le_refl _); have hk5 := hg5.cell w2K (by simp [Value.ownBlock]); have hbl5 := Lib.hid hr5.block_lt; rw [List.nil_append] at hr5)
          | (refine step_appG rfl (.tmp 21) (.tmp 24) rfl o.heap.size (o.heap.size + 1 + 1) (.slice (some ⟨o.heap.size + 1, 0, none⟩) 0 0) [] rfl w3F.out o.heap.size (some ⟨g, 0, none⟩) at' c (zs.take at') rfl hTl.out w3S.out (by have := hTl.out; simp; omega) (by first | (simp; done) | (simp; omega)) ?_; intro v5 w5 hr5 hg5; have hcur := B3.out.grown hg5 (by first | (simp; done) | (simp; omega)) (fun g e => by cases e; simp); have hk5 := hg5.cell w3K (by simp [Value.ownBlock]); have hbl5 := Lib.hid hr5.block_lt; rw [List.nil_append] at hr5)
          | (refine step_app1 rfl (.tmp 25) (.tmp 27) rfl o.heap.size (w5.heap.size + 1) v5 (zs.take at') at' rfl ((hr5.grown (World.grownBy_alloc w5 (.cells #[.int .i64 k] 3) none) (fun g e => by cases e)).wider (Nat.le_refl _) (by simp)) w5.heap.size k rfl (World.cell?_alloc_at _ _ _ _ rfl) hTl.out (by omega) (by have := hcur.size; simp; omega) ?_; intro g6 c6 w6 hr6 hg6 hat6 hlt6; have hcur := (hcur.alloc hcur.size _).grown hg6 (by have := hcur.size; simp; omega) (fun g e => (hbl5.out g e).1); have hcz := hcur.size)
          | (refine step_app1 rfl (.tmp 25) (.tmp 27) rfl o.heap.size w5.heap.size v5 (zs.take at') at' rfl hr5 _ k rfl hk5 hTl.out (by omega) hcur.size ?_; intro g6 c6 w6 hr6 hg6 hat6 hlt6; have hcur := hcur.grown hg6 hcur.size (fun g e => (hbl5.out g e).1); have hcz := hcur.size)
          | (refine step_appG rfl (.tmp 28) (.tmp 31) rfl o.heap.size w6.heap.size (.slice (some ⟨g6, 0, none⟩) (at' + 1) c6) (zs.take at' ++ [(k : Int)]) rfl hr6 o.heap.size _ (k - at') _ (zs.drop at') rfl hDl.out (hDr.out _ (hSL.out.below hcur (Nat.le_refl _)) _ (fun h => if_neg (by omega))) (by have := hTl.out; simp; omega) hcur.size ?_; intro v7 w7 hr7 hg7; have hcur := hcur.grown hg7 hcur.size (fun g e => (hr6.block_lt g e).1); have hl7 := (show (zs.take at' ++ [(k : Int)] ++ zs.drop at').length = k + 1 by have h1 := hTl.out; have h2 := hDl.out; simp only [List.length_append, h1, h2, List.length_cons, List.length_nil]; omega))
          | fail)
      all_goals (
        obtain ⟨A7, c7, hv7, hkc7, hcm7, _⟩ := hr7.form
        rw [hl7] at hv7
        subst hv7
        obtain ⟨g7, rfl, _, _, _, _⟩ := hr7.cell_ (j := 0) (by omega)
        have hgo : o.grownBy w7 none := ⟨hcur.os, hcur.tape, hcur.output, hcur.size, fun b hb _ => hcur.block b hb⟩
        have J1 := Lib.hid hr7
        have J2 := Lib.hid (grown_own HG.out hgo (fun g e => by cases e))
        have J3 := Lib.hid (HRd.out.grown hgo (by simp) (fun b e => by cases e))
        have J4 := Lib.hid hl7
        clear hr5 hr6 hr7 hg5 hg6 hg7 hgo hl7 hcur hcz
        go_wp2
        go_roundw
        case rel => exact ⟨k + 1, g7, c7, _, by omega, by go_num, rfl, J4.out, J1.out.wider hoz (Nat.le_refl _), J2.out, J3.out.more (by omega)⟩
        case measure => simp [intOf]; omega)
    · have hkm : k = many := by omega
      subst hkm
      obtain ⟨A', c', hv', hkc, hcm, hsl⟩ := hrow.form
      injection hv' with h1 h2 h3
      subst h1 h3
      clear h2
      rw [hzl] at hkc
      have hgb := hrow.block_lt g rfl
      have hsw := hgr.size
      have HR := Lib.hid hrow
      have HZL := Lib.hid hzl
      have HG := Lib.hid hgr
      clear hrow hzl hgr hsl
      go_wp2_with fail
      refine (odd_any R (N + k) n wr hRr (by omega) (by omega)).mono ?_
      rintro e w2 ⟨b, rfl, _, hR2, hg2⟩
      have hz2 := hg2.size
      have hrow2 := Lib.hid ((HR.out.grown hg2 (fun g' e => by cases e; left; omega)).wider (Nat.le_refl _) (hi' := w2.heap.size) hz2)
      have hgr2 := Lib.hid (gtrans HG.out hg2)
      have HR2 := Lib.hid hR2
      clear hg2 hRr HR HG hR2
      by_cases hbk : b = true ∧ 0 < k
      · obtain ⟨rfl, hk0⟩ := hbk
        have hki : (0 : Int) < (k : Int) := by omega
        go_wp2_with fail
        refine (pick_pos R (N + k + 1) 3 w2 HR2.out (by omega) (by omega)).mono ?_
        rintro e w3 ⟨z, rfl, z0, z1, hR3, hg3⟩
        have hz3 := hg3.size
        have hrow3 := (hrow2.out.grown hg3 (fun g' e => by cases e; left; omega)).wider (Nat.le_refl _) (hi' := w3.heap.size) hz3
        have hgr3 := Lib.hid (gtrans hgr2.out hg3)
        have HR3 := Lib.hid hR3
        clear hg3 hR3 hrow2 hgr2 HR2
        obtain ⟨g', hg', _, _, hc0, hf0⟩ := hrow3.cell_ (j := 0) (by rw [HZL.out]; omega)
        injection hg' with hg'
        injection hg' with hg'
        subst hg'
        obtain ⟨x, hx⟩ : ∃ x, zs.getD 0 0 = x := ⟨_, rfl⟩
        rw [hx] at hc0
        clear hx
        by_cases e0 : z = 0
        · subst e0
          have hal := World.grownBy_alloc w3 (.cells #[.int .i64 (-1), .int .i64 k] 3) none
          have hRa := HR3.out.alloc (.cells #[.int .i64 (-1), .int .i64 k] 3)
          have hca : (w3.alloc (.cells #[.int .i64 (-1), .int .i64 k] 3)).cell? ⟨w3.heap.size, 0, none⟩ = some (.int .i64 (-1)) := World.cell?_alloc_at _ _ _ _ rfl
          have hcb : (w3.alloc (.cells #[.int .i64 (-1), .int .i64 k] 3)).cell? ⟨w3.heap.size, 1, none⟩ = some (.int .i64 k) := World.cell?_alloc_at _ _ _ _ rfl
          have hrowa := hrow3.grown hal (fun g e => by cases e)
          have hgra := gtrans hgr3.out (World.grownBy_alloc w3 (.cells #[.int .i64 (-1), .int .i64 k] 3) (some R))
          go_wp2_with fail
          refine (pick_pos R (N + k + 1 + 1) 2 _ hRa (by omega) (by omega)).mono ?_
          rintro e w4 ⟨y, rfl, y0, y1, hR4, hg4⟩
          have hz4 := hg4.size
          have hne : some w3.heap.size ≠ some R := by have := HR3.out.lt; simp; omega
          have hca4 := hg4.cell hca hne
          have hcb4 := hg4.cell hcb hne
          have hrow4 := (hrowa.grown hg4 (fun g' e => by cases e; left; omega)).wider (Nat.le_refl _) (hi' := w4.heap.size) (by simp at hz4; omega)
          have hgr4 := Lib.hid (gtrans hgra hg4)
          have HR4 := Lib.hid hR4
          obtain ⟨g', hg', _, _, hc4, hf4⟩ := hrow4.cell_ (j := 0) (by rw [HZL.out]; omega)
          injection hg' with hg'
          injection hg' with hg'
          subst hg'
          have S0 := Lib.hid (hrow4.stored 0 (-1))
          have S1 := Lib.hid (hrow4.stored 0 k)
          clear hca hcb hrowa hgra hg4 hRa hR4 hal hrow4 hrow3
          have fin : ∀ (q : Int), Row (w4.setCell ⟨g, 0, none⟩ (.int .i64 q)) w.heap.size w4.heap.size (.slice (some ⟨g, 0, none⟩) k c) (zs.set 0 q) ∧ w4.grownBy (w4.setCell ⟨g, 0, none⟩ (.int .i64 q)) (some g) → ∃ (A : Option Addr) (m c' : Nat) (zs' : List Int), Ending.returned (.slice (some ⟨g, 0, none⟩) k c) = .returned (.slice A m c') ∧ zs'.length = m ∧ m ≤ c' ∧ c' ≤ maxLen ∧ Sl (w4.setCell ⟨g, 0, none⟩ (.int .i64 q)) (w4.setCell ⟨g, 0, none⟩ (.int .i64 q)).heap.size A zs' ∧ (m ≤ 8 ∧ ∀ a, A = some a → w.heap.size ≤ a.block) ∧ w.grownBy (w4.setCell ⟨g, 0, none⟩ (.int .i64 q)) (some R) ∧ Rd (w4.setCell ⟨g, 0, none⟩ (.int .i64 q)) R (N + 20) := by
            intro q hq
            refine ⟨_, _, _, zs.set 0 q, rfl, by rw [List.length_set]; exact HZL.out, hkc, hcm, ?_, ⟨by omega, fun a e => by cases e; exact hgb.1⟩, grown_own hgr4.out hq.2 (fun g' e => by cases e; omega), (HR4.out.grown hq.2 (fun e => by cases e; omega) (fun b e => by cases e; omega)).more (by omega)⟩
            exact (hq.1.sl_of.2).more (by simp)
          have FIN := Lib.hid fin
          clear fin
          by_cases ey : y = 0
          · subst ey
            go_wp2
            go_ret
            exact FIN.out _ S0.out
          · obtain rfl : y = 1 := by omega
            go_wp2
            go_ret
            exact FIN.out _ S1.out
        · by_cases e1 : z = 1
          · subst e1
            have hal := World.grownBy_alloc w3 (.cells #[.int .i64 x] 3) none
            have hownA := (hrow3.grown hal (fun g e => by cases e)).wider (Nat.le_refl _) (hi' := w3.heap.size + 1) (by omega)
            have hgra := Lib.hid (gtrans hgr3.out (World.grownBy_alloc w3 (.cells #[.int .i64 x] 3) (some R)))
            have hRa := Lib.hid (HR3.out.alloc (.cells #[.int .i64 x] 3))
            have hbl := Lib.hid hownA.block_lt
            clear hal hrow3
            go_wp2_with (at_builtin; go_loud (refine wpList_app1 rfl (.tmp 56) (.tmp 60) rfl w.heap.size (w3.heap.size + 1) (.slice (some ⟨g, 0, none⟩) k c) zs rfl hownA w3.heap.size x rfl (World.cell?_alloc_at _ _ _ _ rfl) (by have := HZL.out; omega) (by simp; omega) ?_); intro v5 w5 hr5 hg5; go_loud (obtain ⟨A5, c5, hv5, hk5, hm5, hs5⟩ := hr5.form; rw [show (zs ++ [x]).length = k + 1 by have := HZL.out; simp; omega] at hv5 hk5; subst hv5; have HS5 := Lib.hid hs5; have HB5 := Lib.hid (fun a (e : A5 = some a) => (hr5.block_lt a.block (by simp [Value.ownBlock, e])).1); have HG5 := Lib.hid (grown_own hgra.out hg5 (fun g' e => (hbl.out g' e).1)); have HR5 := Lib.hid (hRa.out.grown hg5 (fun e => by have := (hbl.out R e.symm).1; omega) (fun b e => by have := (hbl.out b e.symm).1; omega)); clear hr5 hg5 hs5))
            go_ret
            exact ⟨_, _, _, zs ++ [x], rfl, by have := HZL.out; simp; omega, hk5, hm5, HS5.out, ⟨by omega, HB5.out⟩, HG5.out, HR5.out.more (by omega)⟩
          · obtain rfl : z = 2 := by omega
            have hsl3 := Lib.hid (hrow3.sl_of.2)
            have hk1 : (1 : Int) ≤ (k : Int) := by omega
            have hc1 : (1 : Int) ≤ (c : Int) := by omega
            clear hrow3
            by_cases hc1' : c = 1
            · have hk1' : k = 1 := by omega
              subst hc1' hk1'
              go_wp2
              go_ret
              exact ⟨_, _, _, [], rfl, rfl, by omega, by simp [maxLen], Sl.empty _ _ _, ⟨by omega, fun a e => by first | (cases e; exact hgb.1) | (simp at e; subst e; exact hgb.1)⟩, hgr3.out, HR3.out.more (by omega)⟩
            · go_wp2
              go_ret
              exact ⟨_, _, _, zs.drop 1, rfl, by have := HZL.out; simp; omega, by omega, by omega, hsl3.out.drop 1 _ (fun _ => by simp) (fun _ => by omega), ⟨by omega, fun a e => by first | (cases e; exact hgb.1) | (simp at e; subst e; exact hgb.1) | (split at e <;> first | (cases e; exact hgb.1) | cases e)⟩, hgr3.out, HR3.out.more (by omega)⟩
      · cases b with
        | false =>
          go_wp2
          go_ret
          exact ⟨_, _, _, zs, rfl, HZL.out, hkc, hcm, hrow2.out.sl_of.2, ⟨by omega, fun a e => by cases e; exact hgb.1⟩, hgr2.out, HR2.out.more (by omega)⟩
        | true =>
          obtain rfl : k = 0 := by
            rcases Nat.eq_zero_or_pos k with h | h
            · exact h
            · exact absurd ⟨rfl, h⟩ hbk
          go_wp2
          go_ret
          exact ⟨_, _, _, zs, rfl, HZL.out, hkc, hcm, hrow2.out.sl_of.2, ⟨by omega, fun a e => by cases e; exact hgb.1⟩, hgr2.out, HR2.out.more (by omega)⟩
theorem drawOrderValid (A : Option Addr) (n c : Nat) (w : World) (hn : n ≤ 1048576) (hnc : n ≤ c) (hcm : c ≤ maxLen) (hc : Code8 w A n) :
    Calls Try.prog 13 #[.slice A n c] w fun e w' => ∃ (A : Option Addr) (m c : Nat) (zs : List Int), e = .returned (.slice A m c) ∧ zs.length = m ∧ m ≤ c ∧ c ≤ maxLen ∧ Sl w' w'.heap.size A zs ∧ m ≤ 8 ∧ Below w.heap.size w w' := by
  go_enter Try.func13, Try.ntmps13
  go_wp2_with fail
  refine (open_any A n c w hn hnc hcm hc).mono ?_
  rintro e w1 ⟨rfl, hR, hb⟩
  go_wp2_with fail
  refine (pick_pos w.heap.size 0 7 w1 hR (by omega) (by omega)).mono ?_
  rintro e w2 ⟨z, rfl, z0, z1, hR2, hg2⟩
  obtain ⟨many, rfl⟩ := Int.eq_ofNat_of_zero_le z0
  go_wp2_with fail
  refine (l20Order_any w.heap.size (0 + 1) many 3 w2 hR2 (by omega) (by omega) (by omega) (by omega)).mono ?_
  rintro e w3 ⟨A3, m, c3, zs, rfl, h1, h2, h3, h4, ⟨h5, _⟩, hg3, _⟩
  go_wp2
  go_ret
  have hb2 := hb.grown hg2 hb.size (fun k hk => by cases hk; exact Nat.le_refl _)
  exact ⟨A3, m, c3, zs, rfl, h1, h2, h3, h4, h5, hb2.grown hg3 hb2.size (fun k hk => by cases hk; exact Nat.le_refl _)⟩
end Go.Proofs.Ytilmglockldddaa
