/- Contracts: rounds, as late as possible, the program's. -/
import Derived.Test.YtfkccdmjlopleaaFnsB1
import Derived.Test.YtfkccdmjlopleaaFnsC4b
import Derived.Test.YtfkccdmjlopleaaFnsC5s
import Derived.Test.YtfkccdmjlopleaaStillIn
import Derived.Deep.Cut
namespace Go.Proofs.Ytfkccdmjlopleaa
open Go.RowKit Go.Shelf

attribute [local go_sem] Oper.semAt_some

theorem sl_one (w : World) (q : Int) : Sl (w.alloc (.cells #[.int .i64 q] 3)) (w.alloc (.cells #[.int .i64 q] 3)).heap.size (some ⟨w.heap.size, 0, none⟩) [q] := by
  have h : Row (w.alloc (.cells #[.int .i64 q] 3)) w.heap.size (w.heap.size + 1) (.slice (some ⟨w.heap.size, 0, none⟩) 1 1) [q] :=
    ⟨World.ownsRow_lit w #[.int .i64 q] 1 (Nat.le_refl _) (by simp [maxLen]) rfl, fun g hg => by simp [Value.ownBlock] at hg; omega⟩
  exact h.sl_of.2.more (by simp)
/-- The headers of the lists. -/
theorem SS.heads {w : World} {B : Nat} {A : Option Addr} {zss : List (List Int)} (h : SS w B A zss) (h0 : 0 < zss.length) : ∃ b off, A = some ⟨b, off, none⟩ ∧ b < B ∧ ∃ hd : Nat → Value, ∀ j, j < zss.length → w.cell? ⟨b, off + j, none⟩ = some (hd j) ∧ ∃ A' c', hd j = .slice A' (at2 zss j).length c' ∧ Sl w B A' (at2 zss j) := by
  obtain ⟨b, off, _, _, hA, hb, _, _, _, _⟩ := h.at_ h0
  have each : ∀ j, ∃ u : Value, j < zss.length → w.cell? ⟨b, off + j, none⟩ = some u ∧ ∃ A' c', u = .slice A' (at2 zss j).length c' ∧ Sl w B A' (at2 zss j) := fun j => by
    by_cases hj : j < zss.length
    · obtain ⟨b', off', A', c', hA', hb', hc, _, _, hsl⟩ := h.at_ hj
      rw [hA] at hA'
      injection hA' with hA'
      injection hA' with h1 h2
      subst h1 h2
      exact ⟨_, fun _ => ⟨hc, A', c', rfl, hsl⟩⟩
    · exact ⟨undef, fun hh => absurd hh hj⟩
  obtain ⟨f, hf⟩ := Classical.axiomOfChoice each
  exact ⟨b, off, hA, hb, f, hf⟩
/-- The state of the walk where k tasks are done with. -/
def LRI (w : World) (zss : List (List Int)) (L : Nat) (q : Int) (A : Option Addr) (c s2 s3 : Nat) (v3 : Value) (k : Nat) (W : World) : Prop :=
  k ≤ L ∧ W.cell? ⟨s3, 0, none⟩ = some v3 ∧ W.cell? ⟨s3 + 1, 0, none⟩ = some (.slice A L c) ∧ Row W s2 s3 v3 (lateSt zss L q k) ∧ Below w.heap.size w W ∧ s3 + 2 ≤ W.heap.size
theorem LRI.own {w : World} {zss : List (List Int)} {L : Nat} {q : Int} {A : Option Addr} {c s2 s3 : Nat} {v3 : Value} (B : Nat) (h2 : s3 + 2 ≤ B) (h1 : w.heap.size ≤ s2) (h3 : s2 ≤ s3) : OwnFrom B (LRI w zss L q A c s2 s3 v3) := fun k X Y row hs hg hr => by
  obtain ⟨a1, a2, a3, a4, a5, a6⟩ := hs
  exact ⟨a1, cell_kept a2 hg (fun r e => (hr r e).2), cell_kept a3 hg (fun r e => (hr r e).2), a4.grown hg (fun g e => .inr (by have := (hr g e).1; omega)), a5.grown hg (by omega) (fun j e => by have := (hr j e).1; omega), Nat.le_trans a6 hg.size⟩
section
variable (A : Option Addr) (c : Nat) (zss : List (List Int)) (w : World) (hs : SS w w.heap.size A zss) (hn : Small 2000000 zss)
include hs hn
set_option maxHeartbeats 1600000 in
theorem implLR_nil (h0 : (roundsP zss).length = 0) : Calls Try.prog 27 #[.slice A zss.length c] w fun e w' => e = .returned (.slice none 0 0) ∧ Below w.heap.size w w' := by
  have hcall := implTR_any A c zss w hs hn
  have hn1 := hn.1
  obtain ⟨es, hes⟩ : ∃ es, roundsP zss = es := ⟨_, rfl⟩
  rw [hes] at hcall h0
  clear hs hn hes
  refine (callsIn_wide (n := 6)).1 ?_
  refine callsIn_of_wp_marks Try.func27 rfl trivial ?_ rfl
  simp only [Try.ntmps27, List.size_toArray, List.length_cons, List.length_nil, Nat.reduceAdd, Nat.reduceSub, Array.replicate_succ, Array.replicate_zero, List.push_toArray, List.append_toArray, List.nil_append, List.cons_append]
  gi_wp2_with (refine ⟨trivial, ?_⟩; gi_at_call 19; refine (callsIn_wide.2 hcall).mono ?_; rintro e w1 ⟨v1, rfl, hr1, hb1⟩; obtain ⟨Ae, ce, rfl, he1, he2, hsl1⟩ := hr1.form; rw [h0])
  refine ⟨.slice none 0 0, ?_, rfl, hb1⟩
  simp [results, Try.results27, go_sem]
set_option maxRecDepth 100000 in
set_option maxHeartbeats 4000000 in
theorem implLR_some (h0 : 0 < (roundsP zss).length) : Calls Try.prog 27 #[.slice A zss.length c] w fun e w' => ∃ v, e = .returned v ∧ Row w' w.heap.size w'.heap.size v (lateP zss) ∧ Below w.heap.size w w' := by
  have hcall := implTR_any A c zss w hs hn
  have HP := Lib.hid (lateP_rounds zss)
  have h12 := roundsP_12 zss
  have hge := roundsP_ok zss h0
  obtain ⟨es, hes⟩ : ∃ es, roundsP zss = es := ⟨_, rfl⟩
  rw [hes] at hcall h12 HP h0 hge
  obtain ⟨hok, hes2⟩ := hge
  have hL : es.length = zss.length := by rw [hes2, rdsTo_length]
  obtain ⟨L, hzL⟩ : ∃ L, zss.length = L := ⟨_, rfl⟩
  rw [hzL] at hL
  have hp0 : 0 ≤ es.getD 0 0 := by have := rdsTo_bound _ hok.2 0 (by omega); rw [← hes2] at this; omega
  obtain ⟨q, hq⟩ : ∃ q, maxTo es L = q := ⟨_, rfl⟩
  have HALL := Lib.hid (fun t ht k hk => late_all hes hL hq t ht k hk)
  have HMAX := Lib.hid (fun B w' Ae ce hsl => by have h := max_any Ae ce B es w' hsl h0 (by omega) hp0; rw [hL, hq] at h; exact h)
  rw [hL] at h12 HP h0
  rw [hq] at HP
  have HREP := Lib.hid (fun w' => repeat_any (some ⟨w'.heap.size, 0, none⟩) 1 q L h0 h12 (w'.alloc (.cells #[.int .i64 q] 3)) (sl_one w' q))
  have HBW := Lib.hid (fun w' => backward_any A L c w')
  obtain ⟨b, off, rfl, hbB, hd, hhd⟩ := hs.heads (by omega)
  have HHD := Lib.hid hhd
  have HLL := Lib.hid hL
  have hd1 : ((L : Int) == 0) = false := by simp; omega
  have hd2 : (L == 0) = false := by simp; omega
  rw [hzL] at hcall ⊢
  have HZL := Lib.hid hzL
  clear hs hn hes hq hes2 hhd hL hzL hok hp0
  refine (callsIn_wide (n := 6)).1 ?_
  refine callsIn_of_wp_marks Try.func27 rfl trivial ?_ rfl
  simp only [Try.ntmps27, List.size_toArray, List.length_cons, List.length_nil, Nat.reduceAdd, Nat.reduceSub, Array.replicate_succ, Array.replicate_zero, List.push_toArray, List.append_toArray, List.nil_append, List.cons_append]
  gi_wp2_with (first
    | (refine ⟨trivial, ?_⟩; gi_at_call 19; refine (callsIn_wide.2 hcall).mono ?_; rintro e w1 ⟨v1, rfl, hr1, hb1⟩; obtain ⟨Ae, ce, rfl, he1, he2, hsl1⟩ := hr1.form; rw [HLL.out]; have hM1 := Lib.hid (HMAX.out _ _ _ ce hsl1); have HR1 := Lib.hid hb1; clear hr1 hsl1 hb1)
    | (refine ⟨trivial, ?_⟩; gi_at_call 39; refine (callsIn_wide.2 hM1.out).mono ?_; rintro e w' ⟨rfl, rfl⟩)
    | (refine ⟨trivial, ?_⟩; gi_at_call 38; refine (callsIn_wide.2 (HREP.out _)).mono ?_; rintro e w3 ⟨v3, rfl, hr3, hb3⟩; obtain ⟨A3, c3, rfl, _, _, _⟩ := hr3.form; rw [List.length_replicate] at hr3 ⊢; have HR3 := Lib.hid hr3; have HB3 := Lib.hid hb3; clear hr3 hb3)
    | (refine ⟨trivial, ?_⟩; gi_at_call 40; refine (callsIn_wide.2 (HBW.out _)).mono ?_; rintro e w' ⟨rfl, rfl⟩))
  have HB1 := HR1
  have z1 := HB1.out.size
  have z3 := HB3.out.size
  have z2 : (w1.alloc (.cells #[.int .i64 q] 3)).heap.size = w1.heap.size + 1 := by simp
  have bW : Below w.heap.size w ((w3.alloc (.cells #[.slice A3 L c3] 29)).alloc (.cells #[.slice (some ⟨b, off, none⟩) L c] 22)) :=
    (((HB1.out.alloc z1 (.cells #[.int .i64 q] 3)).trans (HB3.out.mono (by omega))).alloc (by omega) _).alloc (by simp; omega) _
  have g1 := World.grownBy_alloc w3 (.cells #[.slice A3 L c3] 29) none
  have k0 : (w3.alloc (.cells #[.slice A3 L c3] 29)).cell? ⟨w3.heap.size, 0, none⟩ = some (.slice A3 L c3) := World.cell?_alloc_at _ _ _ _ rfl
  have g2 := World.grownBy_alloc (w3.alloc (.cells #[.slice A3 L c3] 29)) (.cells #[.slice (some ⟨b, off, none⟩) L c] 22) none
  have k1 : ((w3.alloc (.cells #[.slice A3 L c3] 29)).alloc (.cells #[.slice (some ⟨b, off, none⟩) L c] 22)).cell? ⟨w3.heap.size + 1, 0, none⟩ = some (.slice (some ⟨b, off, none⟩) L c) := World.cell?_alloc_at _ _ _ _ (by simp)
  have k2 := g2.cell k0 (by simp)
  have k3 := (HR3.out.grown g1 (fun g e => by cases e)).grown g2 (fun g e => by cases e)
  have hI0 : LRI w zss L q (some ⟨b, off, none⟩) c (w1.heap.size + 1) w3.heap.size (.slice A3 L c3) 0 ((w3.alloc (.cells #[.slice A3 L c3] 29)).alloc (.cells #[.slice (some ⟨b, off, none⟩) L c] 22)) :=
    ⟨Nat.zero_le _, k2, k1, by rw [z2] at k3; exact k3, bW, by simp⟩
  have HI0 := Lib.hid hI0
  have hzW : ((w3.alloc (.cells #[.slice A3 L c3] 29)).alloc (.cells #[.slice (some ⟨b, off, none⟩) L c] 22)).heap.size = w3.heap.size + 2 := by simp
  have HZW := Lib.hid hzW
  have hz13 : w1.heap.size + 1 ≤ w3.heap.size := by omega
  clear hI0 k0 k1 k2 k3 g1 g2 bW z2 z3 hzW HR1
  refine range_counted (F := Fence.wide) (n := 6) rfl (by omega) (gf := 44) (lb := #[.pointer (some ⟨w3.heap.size + 1, 0, none⟩)]) rfl trivial (enters_of Try.func44 (by kernel_rfl) rfl)
    (backward_counted (w3.heap.size + 1) b off L c 5 hd h12 (by omega)) (fun _ => rfl)
    (LRI w zss L q (some ⟨b, off, none⟩) c (w1.heap.size + 1) w3.heap.size (.slice A3 L c3)) (LRI.own _ (by simp) (by omega) hz13)
    (fun k A h => ⟨h.2.2.1, fun j hj => (h.2.2.2.2.1.cell (p := ⟨b, off + j, none⟩) hbB).trans ((HHD.out j (by rw [HZL.out]; exact hj)).1)⟩)
    HI0.out
    (fun k => { tmps := #[.slice (some ⟨b, off, none⟩) L c, undef, .slice none 0 0, .slice Ae L ce, .pointer (some ⟨w3.heap.size, 0, none⟩), .int .i64 ((L - 1 - k : Nat) : Int), hd (L - 1 - k), undef, undef, .slice (some ⟨b, off, none⟩) L c, .slice Ae L ce, .slice Ae L ce, .int .i64 L, .bool false, .slice Ae L ce, .int .i64 q, .slice (some ⟨w1.heap.size, 0, none⟩) 1 1, .slice (some ⟨b, off, none⟩) L c, .int .i64 L, .slice A3 L c3, .slice (some ⟨b, off, none⟩) L c, .func (.func 44) #[] #[.pointer (some ⟨w3.heap.size + 1, 0, none⟩)], .int .i64 ((L - 1 - k : Nat) : Int), hd (L - 1 - k), undef, undef, undef, undef, undef, undef, undef, undef, undef, undef, undef, undef, undef, undef, undef, undef, undef, undef, undef, undef, undef], defers := [] }) ?assign ?body ?done
  case assign =>
    intro l k W K hK
    gi_wp2
    exact hK
  case body =>
    rintro l d W hdl hsz2 ⟨hd0, c0, c1, hrow, hb, hsz⟩
    obtain ⟨k, hk⟩ : ∃ k, k = L - 1 - d := ⟨_, rfl⟩
    obtain ⟨a1, a2, a3, a4, a5⟩ := HALL.out d hdl k hk
    obtain ⟨_, A', c', hhk, hsl⟩ := HHD.out k (by rw [HZL.out]; exact a2)
    rw [← hk, hhk]
    have HSUC := Lib.hid (fun j hj => inL_succ (at2 zss k) k (lateSt zss L q d) j hj)
    have HI0 := Lib.hid (inL_zero (at2 zss k) k (lateSt zss L q d))
    have HA4 := Lib.hid a4
    have HA5 := Lib.hid a5
    have hw4 := a3.1
    have HIN := Lib.hid a3.2
    have hkt : (k : Int) < (L : Int) := by omega
    obtain ⟨zs, hzs⟩ : ∃ zs, at2 zss k = zs := ⟨_, rfl⟩
    rw [hzs] at hsl HSUC HI0 HA4 HA5 hw4 HIN ⊢
    obtain ⟨st, hst⟩ : ∃ st, lateSt zss L q d = st := ⟨_, rfl⟩
    rw [hst] at hrow HSUC HI0 HA4 HA5
    have HSL := Lib.hid hsl
    have HC1 := Lib.hid c1
    have hk12 : k ≤ 11 := by omega
    clear a1 a3 a4 a5 hzs hst hsl hk hhk c1 hd0
    gi_wp2
    gi_loopw [26] (fun i wq => ∃ j : Nat, j ≤ zs.length ∧ i = .int .i64 j ∧ wq.cell? ⟨w3.heap.size, 0, none⟩ = some (.slice A3 L c3) ∧ wq.cell? ⟨w3.heap.size + 1, 0, none⟩ = some (.slice (some ⟨b, off, none⟩) L c) ∧ Row wq (w1.heap.size + 1) w3.heap.size (.slice A3 L c3) (inL zs k st j) ∧ Below w.heap.size w wq ∧ W.heap.size ≤ wq.heap.size ∧ KeepsOthers W wq) (fun i _ => zs.length - (intOf i).toNat)
    case atStart => exact ⟨0, Nat.zero_le _, rfl, c0, HC1.out, by rw [HI0.out]; exact hrow, hb, Nat.le_refl _, KeepsOthers.refl _⟩
    case round =>
      obtain ⟨j, hj, rfl, b0, b1, hown, hnq, hsq, hko⟩ := hrel
      clear c0
      obtain ⟨hln, hbd⟩ := HA5.out j hj
      have HKO := Lib.hid hko
      have HB1c := Lib.hid b1
      clear hko b1
      by_cases hjl : j < zs.length
      · obtain ⟨b2, off2, rfl, hb2, hc2⟩ := ((HSL.out.below hnq (Nat.le_refl _))).at_ hjl
        have hrange := HIN.out j hjl
        have HSN := Lib.hid (HSUC.out j hjl)
        obtain ⟨z, hz⟩ : ∃ z, zs.getD j 0 = z := ⟨_, rfl⟩
        rw [hz] at hc2 HSN hrange
        clear hz
        obtain ⟨m, rfl⟩ := Int.eq_ofNat_of_zero_le hrange.1
        have hmk : m < k := by omega
        have hrb := hbd m (by omega)
        have hrk := hbd k (by omega)
        obtain ⟨sj, hsj⟩ : ∃ sj, inL zs k st j = sj := ⟨_, rfl⟩
        rw [hsj] at hown HSN hrb hrk hln
        rw [show ((m : Int)).toNat = m from rfl] at HSN
        clear hsj hbd
        obtain ⟨g1, hg1, gl1, gl2, hc3, hf3⟩ := hown.cell_ (j := k) (by rw [hln]; omega)
        cases hg1
        obtain ⟨g2, hg2, _, _, hc4, hf4⟩ := hown.cell_ (j := m) (by rw [hln]; omega)
        cases hg2
        obtain ⟨x, hx⟩ : ∃ x, sj.getD m 0 = x := ⟨_, rfl⟩
        rw [hx] at hc4 HSN hrb
        obtain ⟨y, hy⟩ : ∃ y, sj.getD k 0 = y := ⟨_, rfl⟩
        rw [hy] at hc3 HSN hrk
        have S2 := Lib.hid ((hown.stored m (min x (y - 1))).1)
        have hmn : (m : Int) < (L : Int) := by omega
        obtain ⟨r1, r2⟩ := hrb
        obtain ⟨r3, r4⟩ := hrk
        clear hx hy hown hrange hln
        have hD : Drew (wr.setCell ⟨g1, m, none⟩ (.int .i64 (min x (y - 1)))) (wr.setCell ⟨g1, m, none⟩ (.int .i64 (min x (y - 1)))).drew := ⟨1, rfl⟩
        have HB2 := Lib.hid ((hnq.setCell (p := ⟨g1, m, none⟩) (by show w.heap.size ≤ g1; omega) (.int .i64 (min x (y - 1)))).trans (hD.below _))
        have HS2 := Lib.hid (hD.row S2.out)
        have HZ2 := Lib.hid (show W.heap.size ≤ (wr.setCell ⟨g1, m, none⟩ (.int .i64 (min x (y - 1)))).drew.heap.size by rw [hD.size]; simpa using hsq)
        have HK2 := Lib.hid (show KeepsOthers W (wr.setCell ⟨g1, m, none⟩ (.int .i64 (min x (y - 1)))).drew from ⟨(HKO.out.trans (KeepsOthers.setCell wr ⟨g1, m, none⟩ (.int .i64 (min x (y - 1))))).size, (HKO.out.trans (KeepsOthers.setCell wr ⟨g1, m, none⟩ (.int .i64 (min x (y - 1))))).same⟩)
        have HD0 := Lib.hid (show (wr.setCell ⟨g1, m, none⟩ (.int .i64 (min x (y - 1)))).drew.cell? ⟨w3.heap.size, 0, none⟩ = some (.slice (some ⟨g1, 0, none⟩) L c3) from (World.cell?_setCell_other _ _ _ _ (by simp)).trans b0)
        have HD1 := Lib.hid (show (wr.setCell ⟨g1, m, none⟩ (.int .i64 (min x (y - 1)))).drew.cell? ⟨w3.heap.size + 1, 0, none⟩ = some (.slice (some ⟨b, off, none⟩) L c) from (World.cell?_setCell_other _ _ _ _ (by simp)).trans HB1c.out)
        clear hD
        obtain ⟨wz, hwz⟩ : ∃ wz, (wr.setCell ⟨g1, m, none⟩ (.int .i64 (min x (y - 1)))).drew = wz := ⟨_, rfl⟩
        rw [hwz] at HB2 HS2 HZ2 HK2 HD0 HD1
        have HWZ := Lib.hid hwz
        clear hwz
        gi_wp2
        refine region_still_in 13 (by kernel_rfl) (by kernel_rfl) (by intro o ho; simp at ho; rcases ho with rfl | rfl | rfl | rfl | rfl | rfl | rfl | rfl | rfl | rfl | rfl | rfl | rfl | rfl <;> (intro c' hc'; cases hc')) ?_
        simp only [List.take_succ_cons, List.take_zero, List.drop_succ_cons, List.drop_zero]
        change wpStill Try.prog _ wr.drew (fun a' => wpList Try.prog _ _ _ a' wr.drew) _ _
        repeat still_step
        refine wpStill_nil ?_
        go_wp2
        all_goals (
          first
            | (have e9 : min x (y - 1) = y - 1 := by omega
               rw [show wr.setCell ⟨g1, m, none⟩ (.int .i64 (y - 1)) = wr.setCell ⟨g1, m, none⟩ (.int .i64 (min x (y - 1))) by rw [e9]])
            | (have e9 : min x (y - 1) = x := by omega
               rw [show wr.setCell ⟨g1, m, none⟩ (.int .i64 x) = wr.setCell ⟨g1, m, none⟩ (.int .i64 (min x (y - 1))) by rw [e9]])
            | fail
          rw [HWZ.out]
          rw [onlyN_normal]
          gi_wp2
          go_roundw
          case rel => exact ⟨j + 1, by omega, by go_num, HD0.out, HD1.out, by rw [HSN.out]; exact HS2.out, HB2.out, HZ2.out, HK2.out⟩
          case measure => simp [intOf] <;> omega)
      · have e : j = zs.length := by omega
        subst e
        rw [HA4.out] at hown
        gi_wp2
        exact ⟨HKO.out.from _, by omega, b0, HB1c.out, hown, hnq, by omega⟩
  case done =>
    rintro D W hD ⟨_, c0, c1, hrow, hb, hsz⟩ hK
    have HR := Lib.hid hrow
    have HB := Lib.hid hb
    clear hrow hb c1
    gi_wp2
    refine ⟨by simp, .inl ⟨_, _, rfl, run_takeDeferred hK, ?_⟩⟩
    have hD' := HZW.out
    have r2 := HR.out.grown (grownBy_putObj' W D (.deferred none)) (fun g e => by cases e; right; omega)
    have b2 : Below w.heap.size w (W.putObj D (.deferred none)) := HB.out.trans (belowK_b (w := w) (Nat.le_refl _) W D _ _ (by omega) hK rfl rfl)
    refine ⟨.slice A3 L c3, ?_, _, rfl, by rw [HP.out]; exact r2.wider (by omega) (by simp; omega), b2⟩
    simp [results, Try.results27, go_sem]
theorem implLR_any : Calls Try.prog 27 #[.slice A zss.length c] w fun e w' => ∃ v, e = .returned v ∧ Row w' w.heap.size w'.heap.size v (lateP zss) ∧ Below w.heap.size w w' := by
  rcases Nat.eq_zero_or_pos (roundsP zss).length with h | h
  · have e : lateP zss = [] := by rw [lateP_rounds, h]; rfl
    rw [e]
    exact (implLR_nil A c zss w hs hn h).mono fun e w' h1 => ⟨_, h1.1, Row.nil_ _ _ _, h1.2⟩
  · exact implLR_some A c zss w hs hn h
end
end Go.Proofs.Ytfkccdmjlopleaa
