/- Contracts: tasks whose rounds are fixed, both sides. -/
import Derived.Test.YtfkccdmjlopleaaFnsC5i
import Derived.Deep.AppendLies
namespace Go.Proofs.Ytfkccdmjlopleaa
open Go.RowKit

noncomputable def tightP (zss : List (List Int)) : List Int := tightTo (roundsP zss) (lateP zss) (roundsP zss).length
theorem tightP_len (zss : List (List Int)) (_ : zss.length ≤ 1048576) : (tightP zss).length ≤ 1048576 := by
  have h1 := tightTo_len (roundsP zss) (lateP zss) (roundsP zss).length
  have h2 := roundsP_12 zss
  unfold tightP
  omega
theorem late_same (zss : List (List Int)) : (lateP zss).length = (roundsP zss).length := by
  rw [lateP_rounds, lateSt_length]
theorem wpList_app1b {w : World} {ops : Array Oper} {rest : List Oper} {o : Oper} {a : Act} {Q : Exit → Act → World → Prop} (hw : o.guard = none) (s x : Operand)
    (ho : o.op = .call { callee := .builtin .append, args := #[s, x], argTypes := #[29, 29] })
    (lo hi : Nat) (v : Value) (ys : List Int) (hsv : a.eval s = v) (hrow : Row w lo hi v ys) (g : Nat) (z : Int) (hx : a.eval x = .slice (some ⟨g, 0, none⟩) 1 1) (hz : w.cell? ⟨g, 0, none⟩ = some (.int .i64 z))
    (hn : ys.length ≤ 2000000) (hlo : lo ≤ w.heap.size)
    (h : ∀ v' w', Row w' lo w'.heap.size v' (ys ++ [z]) → w.grownBy w' v.ownBlock → (v'.ownBlock = v.ownBlock ∨ v'.ownBlock = some w.heap.size) → wpList Try.prog ops Q rest (a.put o.dst v') w') : wpList Try.prog ops Q (o :: rest) a w := by
  refine wpList_plain hw fun K hK => ?_
  obtain ⟨i0, hi0, hz0, hz1, hz2⟩ := info_parts info_int
  have hcells : ∀ j u, [Value.int .i64 z][j]? = some u → w.cell? ((⟨g, 0, none⟩ : Addr).add j) = some u := by
    intro j u hj
    match j, hj with
    | 0, hj => simp at hj; subst hj; simpa [Addr.add] using hz
  obtain ⟨v', w', hrun, h2, h3, _, h5⟩ := run_append_own_at (P := Try.prog) w lo 29 o.type 3 i0 (.int .i64 0) 1 8 Try.underlying29 hi0 hz0 hz1 hz2 rfl (by decide) v ys.length _ hrow.1 ⟨g, 0, none⟩ 1 1 [.int .i64 z] rfl hcells (by intro u hu; simp at hu; subst hu; rfl) (by simp only [maxLen]; omega) (by omega) hlo
  unfold Oper.wp execOp
  simp only [ho, resolve, invoke, builtin, Sem.run_bind, Sem.run_pure, Result.andThen_ok, List.map_toArray, List.map_cons, List.map_nil, hsv, hx, hrun]
  exact hK _ _ (h v' w' ⟨by simpa using h2, fun g hg => (h2.lt g hg).2⟩ h3 h5)
section
variable (A : Option Addr) (c : Nat) (zss : List (List Int)) (w : World) (hs : SS w w.heap.size A zss) (hn : Small 2000000 zss)
include hs hn
set_option maxHeartbeats 1600000 in
theorem implTT_any : Calls Try.prog 30 #[.slice A zss.length c] w fun e w' => ∃ v, e = .returned v ∧ Row w' w.heap.size w'.heap.size v (tightP zss) ∧ Below w.heap.size w w' := by
  have hlate := implLR_any A c zss w hs hn
  have HTR := Lib.hid (fun w' (h : Below w.heap.size w w') => implTR_any A c zss w' ((hs.below h (Nat.le_refl _)).more h.size) hn)
  have h12 := roundsP_12 zss
  have hsame := late_same zss
  unfold tightP
  obtain ⟨es, hes⟩ : ∃ es, roundsP zss = es := ⟨_, rfl⟩
  obtain ⟨ls, hls⟩ : ∃ ls, lateP zss = ls := ⟨_, rfl⟩
  rw [hes] at h12 hsame HTR ⊢
  rw [hls] at hlate hsame ⊢
  obtain ⟨L, hL⟩ : ∃ L, es.length = L := ⟨_, rfl⟩
  rw [hL] at hsame h12 ⊢
  have HL := Lib.hid hL
  have HLL := Lib.hid hsame
  have hn1 := hn.1
  clear hs hn hes hls hL hsame
  go_enter Try.func30, Try.ntmps30
  go_wp2_with fail
  refine hlate.mono ?_
  rintro e w1 ⟨v1, rfl, hr1, hb1⟩
  clear hlate
  obtain ⟨Al, cl, rfl, _, _, hsl1⟩ := hr1.form
  rw [HLL.out]
  have HT := Lib.hid (HTR.out w1 hb1)
  have HB1 := Lib.hid hb1
  have HS1 := Lib.hid hsl1
  clear hr1 hb1 hsl1
  go_wp2_with fail
  refine HT.out.mono ?_
  rintro e w2 ⟨v2, rfl, hr2, hb2⟩
  obtain ⟨Ae, ce, rfl, _, _, hsl2⟩ := hr2.form
  rw [HL.out]
  have z1 := HB1.out.size
  have z2 := hb2.size
  have HB2 := Lib.hid (HB1.out.trans (hb2.mono HB1.out.size))
  have HS2 := Lib.hid hsl2
  have HSL := Lib.hid (HS1.out.below hb2 (Nat.le_refl _))
  clear hr2 hb2 hsl2 HTR HT
  go_wp2
  go_loopw [4, 12] (fun v i wr => ∃ k : Nat, k ≤ L ∧ i = .int .i64 k ∧ Row wr w2.heap.size wr.heap.size v (tightTo es ls k) ∧ Below w2.heap.size w2 wr) (fun _ i _ => L - (intOf i).toNat)
  case atStart => exact ⟨0, Nat.zero_le _, rfl, Row.nil_ _ _ _, Below.refl _ _⟩
  case round =>
    obtain ⟨k, hk, rfl, hown, hnx⟩ := hrel
    by_cases hlt : k < L
    · obtain ⟨b, off, rfl, hb, hc⟩ := (HS2.out.below hnx (Nat.le_refl _)).at_ (k := k) (by rw [HL.out]; exact hlt)
      obtain ⟨b2, off2, rfl, hb2, hc2⟩ := (HSL.out.below hnx z2).at_ (k := k) (by rw [HLL.out]; exact hlt)
      have hkl : (k : Int) < (L : Int) := by omega
      have hsz := hnx.size
      obtain ⟨x, hx⟩ : ∃ x, es.getD k 0 = x := ⟨_, rfl⟩
      obtain ⟨y, hy⟩ : ∃ y, ls.getD k 0 = y := ⟨_, rfl⟩
      by_cases hxy : x = y
      · have HSN := Lib.hid (show tightTo es ls (k + 1) = tightTo es ls k ++ [(k : Int)] by rw [tightTo, if_pos (by rw [hx, hy, hxy])])
        rw [hx] at hc
        rw [hy] at hc2
        subst hxy
        have hlen : (tightTo es ls k).length ≤ 2000000 := by have := tightTo_len es ls k; omega
        obtain ⟨ys, hys⟩ : ∃ ys, tightTo es ls k = ys := ⟨_, rfl⟩
        rw [hys] at hown HSN hlen
        have hlow := Lib.hid hown.block_lt
        have hal := (World.grownBy_alloc wr (.cells #[.int .i64 k] 3) none)
        have hownA := (hown.grown hal (fun g e => by cases e)).wider (Nat.le_refl _) (hi' := wr.heap.size + 1) (by omega)
        obtain ⟨Ar, cr, rfl, _, _, _⟩ := hown.form
        clear hown hys hx hy
        go_wp2_with (at_builtin; go_loud (refine wpList_app1 rfl (.tmp 23) (.tmp 25) rfl w2.heap.size (wr.heap.size + 1) _ ys rfl hownA wr.heap.size (k : Int) rfl (World.cell?_alloc_at _ _ _ _ rfl) hlen (by simp; omega) ?_); intro v' w3 hown3 hgrow3)
        go_roundw
        case rel =>
          refine ⟨k + 1, by omega, by go_num, ?_, ?_⟩
          · rw [HSN.out]; exact hown3
          · exact (hnx.alloc hsz _).grown hgrow3 (by simp; omega) (fun g e => (hlow.out g e).1)
        case measure => simp [intOf]; omega
      · have HSN := Lib.hid (show tightTo es ls (k + 1) = tightTo es ls k by rw [tightTo, if_neg (by rw [hx, hy]; exact hxy)])
        rw [hx] at hc
        rw [hy] at hc2
        have hne : (x == y) = false := by simp [hxy]
        have HO := Lib.hid hown
        obtain ⟨ys, hys⟩ : ∃ ys, tightTo es ls k = ys := ⟨_, rfl⟩
        rw [hys] at hown HO HSN
        obtain ⟨Ar, cr, rfl, _, _, _⟩ := hown.form
        clear hown hys hx hy
        go_wp2
        go_roundw
        case rel => exact ⟨k + 1, by omega, by go_num, by rw [HSN.out]; exact HO.out, hnx⟩
        case measure => simp [intOf]; omega
    · have e : k = L := by omega
      subst e
      have HO := Lib.hid hown
      obtain ⟨ys, hys⟩ : ∃ ys, tightTo es ls k = ys := ⟨_, rfl⟩
      have HYS := Lib.hid hys
      rw [hys] at hown HO
      obtain ⟨Ar, cr, rfl, _, _, _⟩ := hown.form
      clear hown hys
      go_wp2
      go_ret
      exact ⟨_, rfl, by rw [HYS.out]; exact HO.out.wider (by omega) (Nat.le_refl _), HB2.out.trans (hnx.mono (by omega))⟩
set_option maxHeartbeats 1600000 in
theorem specTT_any : Calls Try.prog 29 #[.slice A zss.length c] w fun e w' => ∃ v, e = .returned v ∧ Row w' w.heap.size w'.heap.size v (tightP zss) ∧ Below w.heap.size w w' := by
  have h0 := lit0 w
  have hb0 : Below w.heap.size w (w.alloc (.cells #[] 3)) := (Below.refl _ _).alloc (Nat.le_refl _) _
  have hearly := specTR_any A c zss (w.alloc (.cells #[] 3)) ((hs.below hb0 (Nat.le_refl _)).more hb0.size) hn
  have HLR := Lib.hid (fun w' (h : Below w.heap.size w w') => specLR_any A c zss w' ((hs.below h (Nat.le_refl _)).more h.size) hn)
  have h12 := roundsP_12 zss
  have hsame := late_same zss
  unfold tightP
  obtain ⟨es, hes⟩ : ∃ es, roundsP zss = es := ⟨_, rfl⟩
  obtain ⟨ls, hls⟩ : ∃ ls, lateP zss = ls := ⟨_, rfl⟩
  rw [hes] at h12 hsame hearly ⊢
  rw [hls] at hsame HLR ⊢
  obtain ⟨L, hL⟩ : ∃ L, es.length = L := ⟨_, rfl⟩
  rw [hL] at hsame h12 ⊢
  have HL := Lib.hid hL
  have HLL := Lib.hid hsame
  have hn1 := hn.1
  have H0 := Lib.hid h0
  have HB0 := Lib.hid hb0
  clear hs hn hes hls hL hsame h0 hb0
  go_enter Try.func29, Try.ntmps29
  go_wp2_with fail
  refine hearly.mono ?_
  rintro e w1 ⟨v1, rfl, hr1, hb1⟩
  clear hearly
  obtain ⟨Ae, ce, rfl, _, _, hsl1⟩ := hr1.form
  rw [HL.out]
  have HB1 := Lib.hid (HB0.out.trans (hb1.mono HB0.out.size))
  have HT := Lib.hid (HLR.out w1 HB1.out)
  have hr1' : Row w1 (w.heap.size + 1) w1.heap.size (.slice Ae es.length ce) es := hr1.wider (by simp) (Nat.le_refl _)
  rw [HL.out] at hr1'
  have HS1 := Lib.hid hr1'
  have H1 := Lib.hid (H0.out.below hb1 (by simp))
  have q1 : w.heap.size + 1 ≤ w1.heap.size := by have := hb1.size; simpa using this
  clear hr1 hb1 hsl1 hr1'
  go_wp2_with fail
  refine HT.out.mono ?_
  rintro e w2 ⟨v2, rfl, hr2, hb2⟩
  obtain ⟨Al, cl, rfl, _, _, hsl2⟩ := hr2.form
  rw [HLL.out]
  have z2 := hb2.size
  have HB2 := Lib.hid (HB1.out.trans (hb2.mono HB1.out.size))
  have hr2' : Row w2 (w.heap.size + 1) w2.heap.size (.slice Al ls.length cl) ls := hr2.wider q1 (Nat.le_refl _)
  rw [HLL.out] at hr2'
  have HS2 := Lib.hid hr2'
  have HSE := Lib.hid ((HS1.out.below hb2 (Nat.le_refl _)).wider (Nat.le_refl _) z2)
  have H2 := Lib.hid (H1.out.below hb2 q1)
  have hw2 : Row w2 w.heap.size w2.heap.size (.slice (some ⟨w.heap.size, 0, none⟩) 0 0) [] := H2.out.wider (Nat.le_refl _) (by omega)
  have HW2 := Lib.hid hw2
  clear hr2 hb2 hsl2 hr2' HLR HT hw2
  go_wp2
  go_loopw [3, 6] (fun v i wr => ∃ k : Nat, k ≤ L ∧ i = .int .i64 k ∧ (∀ g, v.ownBlock = some g → g = w.heap.size ∨ w2.heap.size ≤ g) ∧ Row wr w.heap.size wr.heap.size v (tightTo es ls k) ∧ Row wr (w.heap.size + 1) w2.heap.size (.slice Ae L ce) es ∧ Row wr (w.heap.size + 1) w2.heap.size (.slice Al L cl) ls ∧ Below w.heap.size w wr ∧ w2.heap.size ≤ wr.heap.size) (fun _ i _ => L - (intOf i).toNat)
  case atStart => exact ⟨0, Nat.zero_le _, rfl, fun g e => by simp [Value.ownBlock] at e; omega, HW2.out, HSE.out, HS2.out, HB2.out, Nat.le_refl _⟩
  case round =>
    obtain ⟨k, hk, rfl, hvb, hown, hse, hsl, hnx, hsz⟩ := hrel
    by_cases hlt : k < L
    · obtain ⟨ge, hge, _, _, hc, _⟩ := hse.cell_ (j := k) (by rw [HL.out]; exact hlt)
      subst hge
      obtain ⟨gl, hgl, _, _, hc2, _⟩ := hsl.cell_ (j := k) (by rw [HLL.out]; exact hlt)
      subst hgl
      have hkl : (k : Int) < (L : Int) := by omega
      have hws := hnx.size
      obtain ⟨x, hx⟩ : ∃ x, es.getD k 0 = x := ⟨_, rfl⟩
      obtain ⟨y, hy⟩ : ∃ y, ls.getD k 0 = y := ⟨_, rfl⟩
      have hD : Drew wr wr.drew := ⟨1, rfl⟩
      by_cases hxy : x = y
      · have HSN := Lib.hid (show tightTo es ls (k + 1) = tightTo es ls k ++ [(k : Int)] by rw [tightTo, if_pos (by rw [hx, hy, hxy])])
        rw [hx] at hc
        rw [hy] at hc2
        subst hxy
        have hlen : (tightTo es ls k).length ≤ 2000000 := by have := tightTo_len es ls k; omega
        obtain ⟨ys, hys⟩ : ∃ ys, tightTo es ls k = ys := ⟨_, rfl⟩
        rw [hys] at hown HSN hlen
        have hlow := Lib.hid hown.block_lt
        have HVB := Lib.hid hvb
        have HSE2 := Lib.hid hse
        have HSL2 := Lib.hid hsl
        obtain ⟨Ar, cr, rfl, _, _, _⟩ := hown.form
        have HO := Lib.hid hown
        clear hown hys hx hy hvb hse hsl hD
        go_wp2
        go_quiet (fail)
        have hD2 : Drew wr (wr.drewN nq) := ⟨nq, rfl⟩
        have hO := hD2.row HO.out
        have hB := hnx.trans (hD2.below _)
        have hSE := hD2.row HSE2.out
        have hSL := hD2.row HSL2.out
        have hZ := hD2.size
        obtain ⟨wd, hwd⟩ : ∃ wd, wr.drewN nq = wd := ⟨_, rfl⟩
        rw [hwd] at hO hB hSE hSL hZ ⊢
        rw [← hZ] at hO
        have hsd : w2.heap.size ≤ wd.heap.size := by omega
        have hB9 := hB.size
        clear hwd hD2 hZ
        have hal := (World.grownBy_alloc wd (.cells #[.int .i64 k] 3) none)
        have hownA := (hO.grown hal (fun g e => by cases e)).wider (Nat.le_refl _) (hi' := wd.heap.size + 1) (by omega)
        have HSA := Lib.hid (hSE.grown hal (fun g e => by cases e))
        have HSB := Lib.hid (hSL.grown hal (fun g e => by cases e))
        have HBB := Lib.hid hB
        clear hO hSE hSL hB hal
        go_wp2_with (at_builtin; go_loud (refine wpList_app1b rfl (.tmp 27) (.tmp 29) rfl w.heap.size (wd.heap.size + 1) _ ys rfl hownA wd.heap.size (k : Int) rfl (World.cell?_alloc_at _ _ _ _ rfl) hlen (by simp; omega) ?_); intro v' w3 hown3 hgrow3 hat3)
        have hvb3 := fun g e => show g < w.heap.size + 1 ∨ w2.heap.size ≤ g from (HVB.out g e).imp (fun h => by omega) id
        go_roundw
        case rel =>
          refine ⟨k + 1, by omega, by go_num, ?_, ?_, ?_, ?_, ?_, ?_⟩
          · intro g e
            rcases hat3 with h | h
            · exact HVB.out g (h ▸ e)
            · rw [h] at e; simp at e; right; omega
          · rw [HSN.out]; exact hown3
          · exact HSA.out.grown hgrow3 hvb3
          · exact HSB.out.grown hgrow3 hvb3
          · exact (HBB.out.alloc hB9 _).grown hgrow3 (by simp; omega) (fun g e => (hlow.out g e).1)
          · have := hgrow3.size; simp at this; omega
        case measure => simp [intOf]; omega
      · have HSN := Lib.hid (show tightTo es ls (k + 1) = tightTo es ls k by rw [tightTo, if_neg (by rw [hx, hy]; exact hxy)])
        rw [hx] at hc
        rw [hy] at hc2
        have hne : (x == y) = false := by simp [hxy]
        obtain ⟨ys, hys⟩ : ∃ ys, tightTo es ls k = ys := ⟨_, rfl⟩
        rw [hys] at hown HSN
        have HVB := Lib.hid hvb
        have HSE2 := Lib.hid hse
        have HSL2 := Lib.hid hsl
        obtain ⟨Ar, cr, rfl, _, _, _⟩ := hown.form
        have HO := Lib.hid hown
        clear hown hys hx hy hvb hse hsl hD
        go_wp2
        go_quiet (fail)
        have hD2 : Drew wr (wr.drewN nq) := ⟨nq, rfl⟩
        have hO := hD2.row HO.out
        have hB := hnx.trans (hD2.below _)
        have hSE := hD2.row HSE2.out
        have hSL := hD2.row HSL2.out
        have hZ := hD2.size
        obtain ⟨wd, hwd⟩ : ∃ wd, wr.drewN nq = wd := ⟨_, rfl⟩
        rw [hwd] at hO hB hSE hSL hZ ⊢
        rw [← hZ] at hO
        have hsd : w2.heap.size ≤ wd.heap.size := by omega
        have hB9 := hB.size
        clear hwd hD2 hZ
        go_wp2
        go_roundw
        case rel => exact ⟨k + 1, by omega, by go_num, HVB.out, by rw [HSN.out]; exact hO, hSE, hSL, hB, hsd⟩
        case measure => simp [intOf]; omega
    · have e : k = L := by omega
      subst e
      have HO := Lib.hid hown
      obtain ⟨ys, hys⟩ : ∃ ys, tightTo es ls k = ys := ⟨_, rfl⟩
      have HYS := Lib.hid hys
      rw [hys] at hown HO
      obtain ⟨Ar, cr, rfl, _, _, _⟩ := hown.form
      clear hown hys hvb hse hsl
      go_wp2
      go_ret
      exact ⟨_, rfl, by rw [HYS.out]; exact HO.out, hnx⟩
end
end Go.Proofs.Ytfkccdmjlopleaa
