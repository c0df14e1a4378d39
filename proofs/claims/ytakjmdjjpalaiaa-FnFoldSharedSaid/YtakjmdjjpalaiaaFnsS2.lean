/- Contracts: FoldShared of shared matrices, the program's. (Printed by gen_S3.py.) -/
import Derived.Test.YtakjmdjjpalaiaaMatS2
import Derived.Test.YtakjmdjjpalaiaaLawE2
import Derived.Deep.RegionHeld3
namespace Go.Proofs.Ytakjmdjjpalaiaa
open Go.RowKit

theorem nestVFold (w : World) (r c : Int) (s : Value) : ∀ W, W = (w.alloc (.cells #[.int .i64 r, .int .i64 c, s] 26)).alloc (.cells #[.int .i64 0, .int .i64 0, .slice none 0 0] 26) →
    Cell3 W w.heap.size (.int .i64 r) (.int .i64 c) s ∧ Cell3 W (w.heap.size + 1) (.int .i64 0) (.int .i64 0) (.slice none 0 0) ∧ Below w.heap.size w W ∧ W.heap.size = w.heap.size + 2 := by
  rintro W rfl
  have a := Cell3.new w (.int .i64 r) (.int .i64 c) s 26
  have b := Cell3.new (w.alloc (.cells #[.int .i64 r, .int .i64 c, s] 26)) (.int .i64 0) (.int .i64 0) (.slice none 0 0) 26
  simp only [World.size_alloc] at b
  exact ⟨a.alloc _, b, ((Below.refl _ _).alloc (Nat.le_refl _) _).alloc (by simp) _, by simp⟩
set_option maxHeartbeats 800000 in
theorem closFold (r c : Int) (A : Option Addr) (cap n B : Nat) (zs : List Int) (kr kc : Int) (Ak : Option Addr) (capk Bk : Nat) (ys : List Int) (b : Nat) (w : World) (hs : Sl w B A zs) (hB : B ≤ w.heap.size) (e : n = zs.length) (hn : n ≤ 1100000) (hnc : n ≤ cap) (hcm : cap ≤ maxLen) (hb : Cell3 w b (.int .i64 kr) (.int .i64 kc) (.slice Ak ys.length capk)) (hbl : b < w.heap.size) (hsk : Sl w Bk Ak ys) (hBk : Bk ≤ w.heap.size) (hnk : ys.length ≤ 1100000) (hnck : ys.length ≤ capk) (hcmk : capk ≤ maxLen) :
    Calls Try.prog 84 #[matV r c (.slice A n cap), .pointer (some ⟨b, 0, none⟩)] w fun e w' => ∃ s, e = .returned (matV (fldR r c zs kr kc ys) (fldC r c zs kr kc ys) s) ∧ Row w' w.heap.size w'.heap.size s (fldZ r c zs kr kc ys) ∧ Below w.heap.size w w' := by
  subst e
  obtain ⟨W, hW⟩ : ∃ W, (w.alloc (.cells #[.int .i64 r, .int .i64 c, .slice A zs.length cap] 26)).alloc (.cells #[.int .i64 0, .int .i64 0, .slice none 0 0] 26) = W := ⟨_, rfl⟩
  obtain ⟨q0, q1, hb0, hws⟩ := nestVFold w r c (.slice A zs.length cap) W hW.symm
  obtain ⟨kb0, kb1, kb2, _, _, _, kblt⟩ := hb.below hb0 hbl
  clear hb
  have hb := hb0
  obtain ⟨pr, hpr⟩ : ∃ x, fldR r c zs kr kc ys = x := ⟨_, rfl⟩
  obtain ⟨pc, hpc⟩ : ∃ x, fldC r c zs kr kc ys = x := ⟨_, rfl⟩
  obtain ⟨ps, hps⟩ : ∃ x, fldZ r c zs kr kc ys = x := ⟨_, rfl⟩
  have HC := Lib.hid (implFold_any r c A cap _ B zs kr kc Ak capk _ Bk ys W (hs.below hb0 hB) (by omega) rfl hn (hsk.below hb0 hBk) (by omega) rfl hnk hnc hcm hnck hcmk)
  rw [hpr, hpc, hps] at HC
  rw [hpr, hpc, hps]
  have Q1 := Lib.hid q1
  have HB := Lib.hid hb
  clear hpr hpc hps hs q1 hb
  obtain ⟨a0, a1, a2, _, _, _, alt⟩ := q0
  go_enter Try.func84, Try.ntmps84
  go_wp2_with fail
  refine HC.out.mono ?_
  rintro e w3 ⟨s3, rfl, hr3, hb3⟩
  clear HC
  obtain ⟨A3, c3, rfl, _, _, _⟩ := hr3.form
  have hs3 := hb3.size
  have P1 := Q1.out.below hb3 (by omega)
  have HP1 := Lib.hid P1
  obtain ⟨b0, b1, b2, g0, g1, g2, blt⟩ := P1
  have HR := Lib.hid hr3
  have HB3 := Lib.hid (HB.out.trans (hb3.mono (by omega)))
  clear hr3 hb3 a0 a1 a2 alt
  go_wp2
  have P2 := ((HP1.out.set0 (.int .i64 pr)).set1 (.int .i64 pc)).set2 (.slice A3 ps.length c3)
  have R2 := HR.out.grown (set_grown _ (w.heap.size + 1) 0 (.int .i64 pr)) (fun g e => by cases e; left; omega)
  have R3 := R2.grown (set_grown _ (w.heap.size + 1) 1 (.int .i64 pc)) (fun g e => by cases e; left; omega)
  have R4 := R3.grown (set_grown _ (w.heap.size + 1) 2 (.slice A3 ps.length c3)) (fun g e => by cases e; left; omega)
  have B4 := ((HB3.out.setCell (p := ⟨w.heap.size + 1, 0, none⟩) (by simp) (.int .i64 pr)).setCell (p := ⟨w.heap.size + 1, 1, none⟩) (by simp) (.int .i64 pc)).setCell (p := ⟨w.heap.size + 1, 2, none⟩) (by simp) (.slice A3 ps.length c3)
  have S4 : ((((w3.setCell ⟨w.heap.size + 1, 0, none⟩ (.int .i64 pr)).setCell ⟨w.heap.size + 1, 1, none⟩ (.int .i64 pc)).setCell ⟨w.heap.size + 1, 2, none⟩ (.slice A3 ps.length c3)).heap.size) = w3.heap.size := by simp
  obtain ⟨W4, hW4⟩ : ∃ W4, (((w3.setCell ⟨w.heap.size + 1, 0, none⟩ (.int .i64 pr)).setCell ⟨w.heap.size + 1, 1, none⟩ (.int .i64 pc)).setCell ⟨w.heap.size + 1, 2, none⟩ (.slice A3 ps.length c3)) = W4 := ⟨_, rfl⟩
  rw [hW4] at P2 R4 B4 S4 ⊢
  obtain ⟨z0, z1, z2, _, _, _, _⟩ := P2
  refine bodyPost_ret (v := matV pr pc (.slice A3 ps.length c3)) (by simp [results, Try.results84, go_sem, z0, z1, z2]) rfl ?_
  exact ⟨_, rfl, R4.wider (by omega) (by omega), B4⟩
set_option maxHeartbeats 1000000 in
theorem eachFold (r c : Int) (A : Option Addr) (cap n B : Nat) (zs : List Int) (A2 : Option Addr) (cap2 n2 B2 : Nat) (ks : List Int) (kr kc : Int) (Ak : Option Addr) (capk Bk : Nat) (ys : List Int) (b : Nat) (w : World) (hs : Sl w B A zs) (hB : B ≤ w.heap.size) (e : n = zs.length) (hn : n ≤ 1100000) (hs2 : Sl w B2 A2 ks) (hB2 : B2 ≤ w.heap.size) (e2 : n2 = ks.length) (hn2 : n2 ≤ 1100000) (hnc : n ≤ cap) (hcm : cap ≤ maxLen) (hnc2 : n2 ≤ cap2) (hcm2 : cap2 ≤ maxLen) (hb : Cell3 w b (.int .i64 kr) (.int .i64 kc) (.slice Ak ys.length capk)) (hbl : b < w.heap.size) (hsk : Sl w Bk Ak ys) (hBk : Bk ≤ w.heap.size) (hnk : ys.length ≤ 1100000) (hnck : ys.length ≤ capk) (hcmk : capk ≤ maxLen)
    (pr pc : Int) (ps qs : List Int) (hp : fldR r c zs kr kc ys = pr ∧ fldC r c zs kr kc ys = pc ∧ fldZ r c zs kr kc ys = ps) (hq : fldR r c ks kr kc ys = pr ∧ fldC r c ks kr kc ys = pc ∧ fldZ r c ks kr kc ys = qs) :
    Calls Try.prog 73 #[smV r c (.slice A n cap) r c (.slice A2 n2 cap2), .func (.func 84) #[] #[.pointer (some ⟨b, 0, none⟩)]] w fun e w' => ∃ s s2, e = .returned (smV pr pc s pr pc s2) ∧ RowS w' w.heap.size w'.heap.size s s2 ps qs ∧ Below w.heap.size w w' := by
  subst e
  subst e2
  have q0 := (Cell6.new w (.int .i64 r) (.int .i64 c) (.slice A zs.length cap) (.int .i64 r) (.int .i64 c) (.slice A2 ks.length cap2) 43).alloc (.cells #[.int .i64 0, .int .i64 0, .slice none 0 0, .int .i64 0, .int .i64 0, .slice none 0 0] 43)
  have q1 := Cell6.new (w.alloc (.cells #[.int .i64 r, .int .i64 c, .slice A zs.length cap, .int .i64 r, .int .i64 c, .slice A2 ks.length cap2] 43)) (.int .i64 0) (.int .i64 0) (.slice none 0 0) (.int .i64 0) (.int .i64 0) (.slice none 0 0) 43
  have hb0 : Below w.heap.size w ((w.alloc (.cells #[.int .i64 r, .int .i64 c, .slice A zs.length cap, .int .i64 r, .int .i64 c, .slice A2 ks.length cap2] 43)).alloc (.cells #[.int .i64 0, .int .i64 0, .slice none 0 0, .int .i64 0, .int .i64 0, .slice none 0 0] 43)) := ((Below.refl _ _).alloc (Nat.le_refl _) _).alloc (by simp) _
  have hsz : ((w.alloc (.cells #[.int .i64 r, .int .i64 c, .slice A zs.length cap, .int .i64 r, .int .i64 c, .slice A2 ks.length cap2] 43)).alloc (.cells #[.int .i64 0, .int .i64 0, .slice none 0 0, .int .i64 0, .int .i64 0, .slice none 0 0] 43)).heap.size = w.heap.size + 2 := by simp
  simp only [World.size_alloc] at q1
  obtain ⟨W, hW⟩ : ∃ W, (w.alloc (.cells #[.int .i64 r, .int .i64 c, .slice A zs.length cap, .int .i64 r, .int .i64 c, .slice A2 ks.length cap2] 43)).alloc (.cells #[.int .i64 0, .int .i64 0, .slice none 0 0, .int .i64 0, .int .i64 0, .slice none 0 0] 43) = W := ⟨_, rfl⟩
  rw [hW] at q0 q1 hb0 hsz
  have HBx := hb0
  have hbw : Below w.heap.size w W.drew := hb0.trans (Below.of_drew _)
  have hcA := Lib.hid (closFold r c A cap _ B zs kr kc Ak capk Bk ys b W.drew (hs.below hbw hB) (Nat.le_trans hB hbw.size) rfl hn hnc hcm (hb.below hbw hbl) (Nat.lt_of_lt_of_le hbl hbw.size) (hsk.below hbw hBk) (Nat.le_trans hBk hbw.size) hnk hnck hcmk)
  rw [hp.1, hp.2.1, hp.2.2] at hcA
  have hcB := Lib.hid fun wx (hx : Below W.heap.size W wx) => closFold r c A2 cap2 _ B2 ks kr kc Ak capk Bk ys b wx (hs2.below (HBx.trans (hx.mono (show w.heap.size ≤ W.heap.size by omega))) hB2) (Nat.le_trans hB2 (HBx.trans (hx.mono (show w.heap.size ≤ W.heap.size by omega))).size) rfl hn2 hnc2 hcm2 (hb.below (HBx.trans (hx.mono (show w.heap.size ≤ W.heap.size by omega))) hbl) (Nat.lt_of_lt_of_le hbl (HBx.trans (hx.mono (show w.heap.size ≤ W.heap.size by omega))).size) (hsk.below (HBx.trans (hx.mono (show w.heap.size ≤ W.heap.size by omega))) hBk) (Nat.le_trans hBk (HBx.trans (hx.mono (show w.heap.size ≤ W.heap.size by omega))).size) hnk hnck hcmk
  rw [hq.1, hq.2.1, hq.2.2] at hcB
  have HB := Lib.hid hb0
  have Q1 := Lib.hid q1
  have HMK := Lib.hid fun w' (hx : Below W.heap.size W w') => (show w'.cell? ⟨w.heap.size, 0, none⟩ = some (.int .i64 r) ∧ w'.cell? ⟨w.heap.size, 1, none⟩ = some (.int .i64 c) ∧ w'.cell? ⟨w.heap.size, 2, none⟩ = some (.slice A zs.length cap) ∧ w'.cell? ⟨w.heap.size, 3, none⟩ = some (.int .i64 r) ∧ w'.cell? ⟨w.heap.size, 4, none⟩ = some (.int .i64 c) ∧ w'.cell? ⟨w.heap.size, 5, none⟩ = some (.slice A2 ks.length cap2) from (by have h := q0.below hx (by omega); exact ⟨h.c0, h.c1, h.c2, h.c3, h.c4, h.c5⟩))
  have HM2 := Lib.hid fun w' (hx : Below W.heap.size W w') (v0 v1 v2 v3 v4 v5 : Value) => (show ((((((w'.setCell ⟨w.heap.size + 1, 0, none⟩ v0).setCell ⟨w.heap.size + 1, 1, none⟩ v1).setCell ⟨w.heap.size + 1, 2, none⟩ v2).setCell ⟨w.heap.size + 1, 3, none⟩ v3).setCell ⟨w.heap.size + 1, 4, none⟩ v4).setCell ⟨w.heap.size + 1, 5, none⟩ v5).cell? ⟨w.heap.size, 0, none⟩ = some (.int .i64 r) ∧ ((((((w'.setCell ⟨w.heap.size + 1, 0, none⟩ v0).setCell ⟨w.heap.size + 1, 1, none⟩ v1).setCell ⟨w.heap.size + 1, 2, none⟩ v2).setCell ⟨w.heap.size + 1, 3, none⟩ v3).setCell ⟨w.heap.size + 1, 4, none⟩ v4).setCell ⟨w.heap.size + 1, 5, none⟩ v5).cell? ⟨w.heap.size, 1, none⟩ = some (.int .i64 c) ∧ ((((((w'.setCell ⟨w.heap.size + 1, 0, none⟩ v0).setCell ⟨w.heap.size + 1, 1, none⟩ v1).setCell ⟨w.heap.size + 1, 2, none⟩ v2).setCell ⟨w.heap.size + 1, 3, none⟩ v3).setCell ⟨w.heap.size + 1, 4, none⟩ v4).setCell ⟨w.heap.size + 1, 5, none⟩ v5).cell? ⟨w.heap.size, 2, none⟩ = some (.slice A zs.length cap) ∧ ((((((w'.setCell ⟨w.heap.size + 1, 0, none⟩ v0).setCell ⟨w.heap.size + 1, 1, none⟩ v1).setCell ⟨w.heap.size + 1, 2, none⟩ v2).setCell ⟨w.heap.size + 1, 3, none⟩ v3).setCell ⟨w.heap.size + 1, 4, none⟩ v4).setCell ⟨w.heap.size + 1, 5, none⟩ v5).cell? ⟨w.heap.size, 3, none⟩ = some (.int .i64 r) ∧ ((((((w'.setCell ⟨w.heap.size + 1, 0, none⟩ v0).setCell ⟨w.heap.size + 1, 1, none⟩ v1).setCell ⟨w.heap.size + 1, 2, none⟩ v2).setCell ⟨w.heap.size + 1, 3, none⟩ v3).setCell ⟨w.heap.size + 1, 4, none⟩ v4).setCell ⟨w.heap.size + 1, 5, none⟩ v5).cell? ⟨w.heap.size, 4, none⟩ = some (.int .i64 c) ∧ ((((((w'.setCell ⟨w.heap.size + 1, 0, none⟩ v0).setCell ⟨w.heap.size + 1, 1, none⟩ v1).setCell ⟨w.heap.size + 1, 2, none⟩ v2).setCell ⟨w.heap.size + 1, 3, none⟩ v3).setCell ⟨w.heap.size + 1, 4, none⟩ v4).setCell ⟨w.heap.size + 1, 5, none⟩ v5).cell? ⟨w.heap.size, 5, none⟩ = some (.slice A2 ks.length cap2) from (by have h := ((((((q0.below hx (by omega)).far (a := ⟨w.heap.size + 1, 0, none⟩) (by simp) v0).far (a := ⟨w.heap.size + 1, 1, none⟩) (by simp) v1).far (a := ⟨w.heap.size + 1, 2, none⟩) (by simp) v2).far (a := ⟨w.heap.size + 1, 3, none⟩) (by simp) v3).far (a := ⟨w.heap.size + 1, 4, none⟩) (by simp) v4).far (a := ⟨w.heap.size + 1, 5, none⟩) (by simp) v5; exact ⟨h.c0, h.c1, h.c2, h.c3, h.c4, h.c5⟩))
  have hcur : Below W.heap.size W W.drew := Below.of_drew _
  obtain ⟨a0, a1, a2, a3, a4, a5, _, _, _, _, _, _, alt⟩ := q0
  obtain ⟨b0, b1, b2, b3, b4, b5, fb0, fb1, fb2, fb3, fb4, fb5, blt⟩ := q1
  clear hs hs2 hb0 HBx hp hq hbw hb
  have hsz' : w.heap.size + 2 ≤ W.heap.size := by omega
  clear hsz hbl hB hB2 hn hn2 hsk hBk hnk hnck hcmk hnc hcm hnc2 hcm2
  go_enter Try.func73, Try.ntmps73
  go_wp2
  go_region_held3 (fun w' => w'.cell? ⟨w.heap.size, 0, none⟩ = some (.int .i64 r) ∧ w'.cell? ⟨w.heap.size, 1, none⟩ = some (.int .i64 c) ∧ w'.cell? ⟨w.heap.size, 2, none⟩ = some (.slice A zs.length cap) ∧ w'.cell? ⟨w.heap.size, 3, none⟩ = some (.int .i64 r) ∧ w'.cell? ⟨w.heap.size, 4, none⟩ = some (.int .i64 c) ∧ w'.cell? ⟨w.heap.size, 5, none⟩ = some (.slice A2 ks.length cap2))
    (first | with_reducible exact HMK.out _ hcur | with_reducible exact HM2.out _ hcur _ _ _ _ _ _ | fail)
    (first
      | (go_simp; go_at_call 84; (with_reducible refine hcA.out.mono ?_); rintro e Wa ⟨sva, rfl, hra, hba⟩; obtain ⟨Aa, ca, rfl, _, _, _⟩ := hra.form; have hsa := hba.size; have hcur := hcur.trans (hba.mono (Nat.le_refl _)))
      | (go_simp; go_at_call 84; (with_reducible refine (hcB.out Wa hcur).mono ?_); rintro e Wb ⟨svb, rfl, hrb, hbb⟩; obtain ⟨Ab, cb, rfl, _, _, _⟩ := hrb.form; have hra := hra.below hbb (Nat.le_refl _); have hsb := hbb.size; have hcur := hcur.trans (hbb.mono hcur.size); obtain ⟨b0, b1, b2, b3, b4, b5, fb0, fb1, fb2, fb3, fb4, fb5, blt⟩ := Q1.out.below hcur (show w.heap.size + 1 < W.heap.size by omega))
      | fail)
  have K1 := Q1.out.below hcur (by omega)
  have hsW : W.drew.heap.size = W.heap.size := rfl
  have N1 := Lib.hid ((((((K1.set0 (.int .i64 pr)).set1 (.int .i64 pc)).set2 (.slice Aa ps.length ca)).set3 (.int .i64 pr)).set4 (.int .i64 pc)).set5 (.slice Ab qs.length cb))
  have NR := Lib.hid ((((((hra.grown (set_grown _ (w.heap.size + 1) 0 (.int .i64 pr)) (fun g e => by cases e; left; omega)).grown (set_grown _ (w.heap.size + 1) 1 (.int .i64 pc)) (fun g e => by cases e; left; omega)).grown (set_grown _ (w.heap.size + 1) 2 (.slice Aa ps.length ca)) (fun g e => by cases e; left; omega)).grown (set_grown _ (w.heap.size + 1) 3 (.int .i64 pr)) (fun g e => by cases e; left; omega)).grown (set_grown _ (w.heap.size + 1) 4 (.int .i64 pc)) (fun g e => by cases e; left; omega)).grown (set_grown _ (w.heap.size + 1) 5 (.slice Ab qs.length cb)) (fun g e => by cases e; left; omega))
  have NR3 := Lib.hid ((((((hrb.grown (set_grown _ (w.heap.size + 1) 0 (.int .i64 pr)) (fun g e => by cases e; left; omega)).grown (set_grown _ (w.heap.size + 1) 1 (.int .i64 pc)) (fun g e => by cases e; left; omega)).grown (set_grown _ (w.heap.size + 1) 2 (.slice Aa ps.length ca)) (fun g e => by cases e; left; omega)).grown (set_grown _ (w.heap.size + 1) 3 (.int .i64 pr)) (fun g e => by cases e; left; omega)).grown (set_grown _ (w.heap.size + 1) 4 (.int .i64 pc)) (fun g e => by cases e; left; omega)).grown (set_grown _ (w.heap.size + 1) 5 (.slice Ab qs.length cb)) (fun g e => by cases e; left; omega))
  have NB := Lib.hid (((((((HB.out.trans (hcur.mono (show w.heap.size ≤ W.heap.size by omega))).setCell (p := ⟨w.heap.size + 1, 0, none⟩) (show w.heap.size ≤ w.heap.size + 1 by omega) (.int .i64 pr)).setCell (p := ⟨w.heap.size + 1, 1, none⟩) (show w.heap.size ≤ w.heap.size + 1 by omega) (.int .i64 pc)).setCell (p := ⟨w.heap.size + 1, 2, none⟩) (show w.heap.size ≤ w.heap.size + 1 by omega) (.slice Aa ps.length ca)).setCell (p := ⟨w.heap.size + 1, 3, none⟩) (show w.heap.size ≤ w.heap.size + 1 by omega) (.int .i64 pr)).setCell (p := ⟨w.heap.size + 1, 4, none⟩) (show w.heap.size ≤ w.heap.size + 1 by omega) (.int .i64 pc)).setCell (p := ⟨w.heap.size + 1, 5, none⟩) (show w.heap.size ≤ w.heap.size + 1 by omega) (.slice Ab qs.length cb))
  have NS : ((((((Wb.setCell ⟨w.heap.size + 1, 0, none⟩ (.int .i64 pr)).setCell ⟨w.heap.size + 1, 1, none⟩ (.int .i64 pc)).setCell ⟨w.heap.size + 1, 2, none⟩ (.slice Aa ps.length ca)).setCell ⟨w.heap.size + 1, 3, none⟩ (.int .i64 pr)).setCell ⟨w.heap.size + 1, 4, none⟩ (.int .i64 pc)).setCell ⟨w.heap.size + 1, 5, none⟩ (.slice Ab qs.length cb)).heap.size = Wb.heap.size := by simp
  have HS := Lib.hid (show W.heap.size ≤ Wa.heap.size ∧ Wa.heap.size ≤ Wb.heap.size ∧ w.heap.size ≤ W.drew.heap.size from ⟨hsa, hsb, by omega⟩)
  clear hra hrb hba hbb hsW hsa hsb K1
  go_wp2
  obtain ⟨Z, hZ⟩ : ∃ Z, ((((((Wb.setCell ⟨w.heap.size + 1, 0, none⟩ (.int .i64 pr)).setCell ⟨w.heap.size + 1, 1, none⟩ (.int .i64 pc)).setCell ⟨w.heap.size + 1, 2, none⟩ (.slice Aa ps.length ca)).setCell ⟨w.heap.size + 1, 3, none⟩ (.int .i64 pr)).setCell ⟨w.heap.size + 1, 4, none⟩ (.int .i64 pc)).setCell ⟨w.heap.size + 1, 5, none⟩ (.slice Ab qs.length cb)) = Z := ⟨_, rfl⟩
  rw [hZ] at N1 NR NR3 NB NS ⊢
  obtain ⟨z0, z1, z2, z3, z4, z5, _, _, _, _, _, _, _⟩ := N1.out
  refine bodyPost_ret (v := smV pr pc (.slice Aa ps.length ca) pr pc (.slice Ab qs.length cb)) (by simp [results, Try.results73, go_sem, z0, z1, z2, z3, z4, z5]) rfl ?_
  have hh := HS.out
  exact ⟨_, _, rfl, ⟨Wa.heap.size, by omega, by omega, NR.out.wider hh.2.2 (Nat.le_refl _), NR3.out.wider (Nat.le_refl _) (by omega)⟩, NB.out⟩
section
open Classical
noncomputable def shfR (r c : Int) (zs : List Int) (r2 c2 : Int) (ks : List Int) (kr kc : Int) (ys : List Int) : Int := if OkS r c zs r2 c2 ks then fldR r c zs kr kc ys else 0
noncomputable def shfC (r c : Int) (zs : List Int) (r2 c2 : Int) (ks : List Int) (kr kc : Int) (ys : List Int) : Int := if OkS r c zs r2 c2 ks then fldC r c zs kr kc ys else 0
noncomputable def shfZ (r c : Int) (zs : List Int) (r2 c2 : Int) (ks : List Int) (kr kc : Int) (ys : List Int) : List Int := if OkS r c zs r2 c2 ks then fldZ r c zs kr kc ys else []
noncomputable def shfK (r c : Int) (zs : List Int) (r2 c2 : Int) (ks : List Int) (kr kc : Int) (ys : List Int) : List Int := if OkS r c zs r2 c2 ks then fldZ r c ks kr kc ys else []
theorem fld_same {r c kr kc : Int} {zs ks ys : List Int} (h1 : OkM r c zs) (h2 : OkM r c ks) : fldR r c ks kr kc ys = fldR r c zs kr kc ys ∧ fldC r c ks kr kc ys = fldC r c zs kr kc ys := by
  have e : OkF r c ks kr kc ys ↔ OkF r c zs kr kc ys := ⟨fun h => ⟨h1, h.2⟩, fun h => ⟨h2, h.2⟩⟩
  unfold fldR fldC
  by_cases h : OkF r c zs kr kc ys
  · rw [if_pos h, if_pos h, if_pos (e.2 h), if_pos (e.2 h)]
    exact ⟨rfl, rfl⟩
  · rw [if_neg h, if_neg h, if_neg (fun x => h (e.1 x)), if_neg (fun x => h (e.1 x))]
    exact ⟨rfl, rfl⟩
end
set_option maxHeartbeats 1600000 in
theorem implSF_no (r c : Int) (A : Option Addr) (cap n B : Nat) (zs : List Int) (r2 c2 : Int) (A2 : Option Addr) (cap2 n2 B2 : Nat) (ks : List Int) (kr kc : Int) (Ak : Option Addr) (capk nk Bk : Nat) (ys : List Int) (w : World) (hs : Sl w B A zs) (hB : B ≤ w.heap.size) (e : n = zs.length) (hn : n ≤ 1100000) (hs2 : Sl w B2 A2 ks) (hB2 : B2 ≤ w.heap.size) (e2 : n2 = ks.length) (hn2 : n2 ≤ 1100000) (hsk : Sl w Bk Ak ys) (hBk : Bk ≤ w.heap.size) (ek : nk = ys.length) (hnk : nk ≤ 1100000) (h : ¬ OkS r c zs r2 c2 ks) :
    Calls Try.prog 47 #[smV r c (.slice A n cap) r2 c2 (.slice A2 n2 cap2), matV kr kc (.slice Ak nk capk)] w fun e w' => e = .returned (smV 0 0 (.slice none 0 0) 0 0 (.slice none 0 0)) ∧ Below w.heap.size w w' := by
  subst e
  subst e2
  subst ek
  have q0 := ((Cell6.new w (.int .i64 r) (.int .i64 c) (.slice A zs.length cap) (.int .i64 r2) (.int .i64 c2) (.slice A2 ks.length cap2) 43).alloc (.cells #[.int .i64 kr, .int .i64 kc, .slice Ak ys.length capk] 26)).alloc (.cells #[.int .i64 0, .int .i64 0, .slice none 0 0, .int .i64 0, .int .i64 0, .slice none 0 0] 43)
  have q2 := Cell6.new ((w.alloc (.cells #[.int .i64 r, .int .i64 c, .slice A zs.length cap, .int .i64 r2, .int .i64 c2, .slice A2 ks.length cap2] 43)).alloc (.cells #[.int .i64 kr, .int .i64 kc, .slice Ak ys.length capk] 26)) (.int .i64 0) (.int .i64 0) (.slice none 0 0) (.int .i64 0) (.int .i64 0) (.slice none 0 0) 43
  have hb : Below w.heap.size w (((w.alloc (.cells #[.int .i64 r, .int .i64 c, .slice A zs.length cap, .int .i64 r2, .int .i64 c2, .slice A2 ks.length cap2] 43)).alloc (.cells #[.int .i64 kr, .int .i64 kc, .slice Ak ys.length capk] 26)).alloc (.cells #[.int .i64 0, .int .i64 0, .slice none 0 0, .int .i64 0, .int .i64 0, .slice none 0 0] 43)) := (((Below.refl _ _).alloc (Nat.le_refl _) _).alloc (by simp) _).alloc (by simp; omega) _
  have hsz : (((w.alloc (.cells #[.int .i64 r, .int .i64 c, .slice A zs.length cap, .int .i64 r2, .int .i64 c2, .slice A2 ks.length cap2] 43)).alloc (.cells #[.int .i64 kr, .int .i64 kc, .slice Ak ys.length capk] 26)).alloc (.cells #[.int .i64 0, .int .i64 0, .slice none 0 0, .int .i64 0, .int .i64 0, .slice none 0 0] 43)).heap.size = w.heap.size + 3 := by simp
  have q1 := (Cell3.new (w.alloc (.cells #[.int .i64 r, .int .i64 c, .slice A zs.length cap, .int .i64 r2, .int .i64 c2, .slice A2 ks.length cap2] 43)) (.int .i64 kr) (.int .i64 kc) (.slice Ak ys.length capk) 26).alloc (.cells #[.int .i64 0, .int .i64 0, .slice none 0 0, .int .i64 0, .int .i64 0, .slice none 0 0] 43)
  simp only [World.size_alloc] at q1 q2
  obtain ⟨W, hW⟩ : ∃ W, ((w.alloc (.cells #[.int .i64 r, .int .i64 c, .slice A zs.length cap, .int .i64 r2, .int .i64 c2, .slice A2 ks.length cap2] 43)).alloc (.cells #[.int .i64 kr, .int .i64 kc, .slice Ak ys.length capk] 26)).alloc (.cells #[.int .i64 0, .int .i64 0, .slice none 0 0, .int .i64 0, .int .i64 0, .slice none 0 0] 43) = W := ⟨_, rfl⟩
  rw [hW] at q0 q1 q2 hb hsz
  have S1 := Lib.hid (hs.below hb hB)
  have S2 := Lib.hid (hs2.below hb hB2)
  have SK := Lib.hid (hsk.below hb hBk)
  have HB := Lib.hid hb
  have Q0 := Lib.hid q0
  have Q1 := Lib.hid q1
  have Q2 := Lib.hid q2
  clear hs hs2 hsk hb q2
  obtain ⟨a0, a1, a2, a3, a4, a5, _, _, _, _, _, _, alt⟩ := q0
  obtain ⟨k0, k1, k2, _, _, _, klt⟩ := q1
  have H := Lib.hid h
  clear h
  go_enter Try.func47, Try.ntmps47
  go_wp2_with fail
  refine (implSMV_any r c A cap _ B zs r2 c2 A2 cap2 _ B2 ks W S1.out (by omega) rfl hn S2.out (by omega) rfl hn2 false ⟨fun e => (by simp at e), fun e => absurd e H.out⟩).mono ?_
  rintro e w2 ⟨rfl, hb2⟩
  have P2 := Lib.hid (Q2.out.below hb2 (by omega))
  have HB2 := Lib.hid (HB.out.trans (hb2.mono (by omega)))
  clear hb2 a0 a1 a2 a3 a4 a5 alt k0 k1 k2 klt
  obtain ⟨d0, d1, d2, d3, d4, d5, fd0, fd1, fd2, fd3, fd4, fd5, dlt⟩ := P2.out
  have N2 := Lib.hid ((((((P2.out.set0 (.int .i64 0)).set1 (.int .i64 0)).set2 (.slice none 0 0)).set3 (.int .i64 0)).set4 (.int .i64 0)).set5 (.slice none 0 0))
  have NB := Lib.hid ((((((HB2.out.setCell (p := ⟨w.heap.size + 1 + 1, 0, none⟩) (show w.heap.size ≤ w.heap.size + 1 + 1 by omega) (.int .i64 0)).setCell (p := ⟨w.heap.size + 1 + 1, 1, none⟩) (show w.heap.size ≤ w.heap.size + 1 + 1 by omega) (.int .i64 0)).setCell (p := ⟨w.heap.size + 1 + 1, 2, none⟩) (show w.heap.size ≤ w.heap.size + 1 + 1 by omega) (.slice none 0 0)).setCell (p := ⟨w.heap.size + 1 + 1, 3, none⟩) (show w.heap.size ≤ w.heap.size + 1 + 1 by omega) (.int .i64 0)).setCell (p := ⟨w.heap.size + 1 + 1, 4, none⟩) (show w.heap.size ≤ w.heap.size + 1 + 1 by omega) (.int .i64 0)).setCell (p := ⟨w.heap.size + 1 + 1, 5, none⟩) (show w.heap.size ≤ w.heap.size + 1 + 1 by omega) (.slice none 0 0))
  go_wp2
  obtain ⟨Z, hZ⟩ : ∃ Z, ((((((w2.setCell ⟨w.heap.size + 1 + 1, 0, none⟩ (.int .i64 0)).setCell ⟨w.heap.size + 1 + 1, 1, none⟩ (.int .i64 0)).setCell ⟨w.heap.size + 1 + 1, 2, none⟩ (.slice none 0 0)).setCell ⟨w.heap.size + 1 + 1, 3, none⟩ (.int .i64 0)).setCell ⟨w.heap.size + 1 + 1, 4, none⟩ (.int .i64 0)).setCell ⟨w.heap.size + 1 + 1, 5, none⟩ (.slice none 0 0)) = Z := ⟨_, rfl⟩
  rw [hZ] at N2 NB ⊢
  obtain ⟨z0, z1, z2, z3, z4, z5, _, _, _, _, _, _, _⟩ := N2.out
  refine bodyPost_ret (v := smV 0 0 (.slice none 0 0) 0 0 (.slice none 0 0)) (by simp [results, Try.results47, go_sem, z0, z1, z2, z3, z4, z5]) rfl ?_
  exact ⟨rfl, NB.out⟩
set_option maxHeartbeats 1600000 in
theorem implSF_yes (r c : Int) (A : Option Addr) (cap n B : Nat) (zs : List Int) (r2 c2 : Int) (A2 : Option Addr) (cap2 n2 B2 : Nat) (ks : List Int) (kr kc : Int) (Ak : Option Addr) (capk nk Bk : Nat) (ys : List Int) (w : World) (hs : Sl w B A zs) (hB : B ≤ w.heap.size) (e : n = zs.length) (hn : n ≤ 1100000) (hs2 : Sl w B2 A2 ks) (hB2 : B2 ≤ w.heap.size) (e2 : n2 = ks.length) (hn2 : n2 ≤ 1100000) (hsk : Sl w Bk Ak ys) (hBk : Bk ≤ w.heap.size) (ek : nk = ys.length) (hnk : nk ≤ 1100000) (hnck : nk ≤ capk) (hcmk : capk ≤ maxLen) (hnc : n ≤ cap) (hcm : cap ≤ maxLen) (hnc2 : n2 ≤ cap2) (hcm2 : cap2 ≤ maxLen) (h : OkS r c zs r2 c2 ks) :
    Calls Try.prog 47 #[smV r c (.slice A n cap) r2 c2 (.slice A2 n2 cap2), matV kr kc (.slice Ak nk capk)] w fun e w' => ∃ s s2, e = .returned (smV (fldR r c zs kr kc ys) (fldC r c zs kr kc ys) s (fldR r c zs kr kc ys) (fldC r c zs kr kc ys) s2) ∧ RowS w' w.heap.size w'.heap.size s s2 (fldZ r c zs kr kc ys) (fldZ r c ks kr kc ys) ∧ Below w.heap.size w w' := by
  subst e
  subst e2
  subst ek
  obtain ⟨hm1, hm2, rfl, rfl⟩ := id h
  have hsm := fld_same (kr := kr) (kc := kc) (ys := ys) hm1 hm2
  have q0 := ((Cell6.new w (.int .i64 r) (.int .i64 c) (.slice A zs.length cap) (.int .i64 r) (.int .i64 c) (.slice A2 ks.length cap2) 43).alloc (.cells #[.int .i64 kr, .int .i64 kc, .slice Ak ys.length capk] 26)).alloc (.cells #[.int .i64 0, .int .i64 0, .slice none 0 0, .int .i64 0, .int .i64 0, .slice none 0 0] 43)
  have q2 := Cell6.new ((w.alloc (.cells #[.int .i64 r, .int .i64 c, .slice A zs.length cap, .int .i64 r, .int .i64 c, .slice A2 ks.length cap2] 43)).alloc (.cells #[.int .i64 kr, .int .i64 kc, .slice Ak ys.length capk] 26)) (.int .i64 0) (.int .i64 0) (.slice none 0 0) (.int .i64 0) (.int .i64 0) (.slice none 0 0) 43
  have hb : Below w.heap.size w (((w.alloc (.cells #[.int .i64 r, .int .i64 c, .slice A zs.length cap, .int .i64 r, .int .i64 c, .slice A2 ks.length cap2] 43)).alloc (.cells #[.int .i64 kr, .int .i64 kc, .slice Ak ys.length capk] 26)).alloc (.cells #[.int .i64 0, .int .i64 0, .slice none 0 0, .int .i64 0, .int .i64 0, .slice none 0 0] 43)) := (((Below.refl _ _).alloc (Nat.le_refl _) _).alloc (by simp) _).alloc (by simp; omega) _
  have hsz : (((w.alloc (.cells #[.int .i64 r, .int .i64 c, .slice A zs.length cap, .int .i64 r, .int .i64 c, .slice A2 ks.length cap2] 43)).alloc (.cells #[.int .i64 kr, .int .i64 kc, .slice Ak ys.length capk] 26)).alloc (.cells #[.int .i64 0, .int .i64 0, .slice none 0 0, .int .i64 0, .int .i64 0, .slice none 0 0] 43)).heap.size = w.heap.size + 3 := by simp
  have q1 := (Cell3.new (w.alloc (.cells #[.int .i64 r, .int .i64 c, .slice A zs.length cap, .int .i64 r, .int .i64 c, .slice A2 ks.length cap2] 43)) (.int .i64 kr) (.int .i64 kc) (.slice Ak ys.length capk) 26).alloc (.cells #[.int .i64 0, .int .i64 0, .slice none 0 0, .int .i64 0, .int .i64 0, .slice none 0 0] 43)
  simp only [World.size_alloc] at q1 q2
  obtain ⟨W, hW⟩ : ∃ W, ((w.alloc (.cells #[.int .i64 r, .int .i64 c, .slice A zs.length cap, .int .i64 r, .int .i64 c, .slice A2 ks.length cap2] 43)).alloc (.cells #[.int .i64 kr, .int .i64 kc, .slice Ak ys.length capk] 26)).alloc (.cells #[.int .i64 0, .int .i64 0, .slice none 0 0, .int .i64 0, .int .i64 0, .slice none 0 0] 43) = W := ⟨_, rfl⟩
  rw [hW] at q0 q1 q2 hb hsz
  have S1 := Lib.hid (hs.below hb hB)
  have S2 := Lib.hid (hs2.below hb hB2)
  have SK := Lib.hid (hsk.below hb hBk)
  have HB := Lib.hid hb
  have Q0 := Lib.hid q0
  have Q1 := Lib.hid q1
  have Q2 := Lib.hid q2
  clear hs hs2 hsk hb q2
  obtain ⟨a0, a1, a2, a3, a4, a5, _, _, _, _, _, _, alt⟩ := q0
  obtain ⟨k0, k1, k2, _, _, _, klt⟩ := q1
  have H := Lib.hid h
  have hmf : ∀ (fn : Fn) (first cap : Array Value) (w : World), (Instr.makeFunc fn first cap).run Try.prog w = .ok (.func fn first cap) w := fun _ _ _ _ => rfl
  obtain ⟨pr, hpr⟩ : ∃ x, fldR r c zs kr kc ys = x := ⟨_, rfl⟩
  obtain ⟨pc, hpc⟩ : ∃ x, fldC r c zs kr kc ys = x := ⟨_, rfl⟩
  obtain ⟨ps, hps⟩ : ∃ x, fldZ r c zs kr kc ys = x := ⟨_, rfl⟩
  obtain ⟨qs, hqs⟩ : ∃ x, fldZ r c ks kr kc ys = x := ⟨_, rfl⟩
  rw [hpr, hpc] at hsm
  rw [hpr, hpc, hps, hqs]
  have HP := Lib.hid (And.intro (show fldR r c zs kr kc ys = pr ∧ fldC r c zs kr kc ys = pc ∧ fldZ r c zs kr kc ys = ps from ⟨hpr, hpc, hps⟩) (show fldR r c ks kr kc ys = pr ∧ fldC r c ks kr kc ys = pc ∧ fldZ r c ks kr kc ys = qs from ⟨hsm.1, hsm.2, hqs⟩))
  clear hpr hpc hps hqs hsm h hm1 hm2
  go_enter Try.func47, Try.ntmps47
  go_wp2_with fail
  refine (implSMV_any r c A cap _ B zs r c A2 cap2 _ B2 ks W S1.out (by omega) rfl hn S2.out (by omega) rfl hn2 true ⟨fun _ => H.out, fun _ => rfl⟩).mono ?_
  rintro e w2 ⟨rfl, hb2⟩
  have hs2 := hb2.size
  have P0 := Lib.hid (Q0.out.below hb2 alt)
  have P1 := Lib.hid (Q1.out.below hb2 klt)
  have P2 := Lib.hid (Q2.out.below hb2 (by omega))
  have T1 := Lib.hid (S1.out.below hb2 (by omega))
  have T2 := Lib.hid (S2.out.below hb2 (by omega))
  have TK := Lib.hid (SK.out.below hb2 (by omega))
  have HB2 := Lib.hid (HB.out.trans (hb2.mono (by omega)))
  clear hb2 a0 a1 a2 a3 a4 a5 alt k0 k1 k2 klt Q0 Q1 Q2 S1 S2 SK HB
  obtain ⟨a0, a1, a2, a3, a4, a5, _, _, _, _, _, _, alt⟩ := P0.out
  go_wp2_with fail
  refine (eachFold r c A cap _ B zs A2 cap2 _ B2 ks kr kc Ak capk Bk ys (w.heap.size + 1) w2 T1.out (by omega) rfl hn T2.out (by omega) rfl hn2 hnc hcm hnc2 hcm2 P1.out (by omega) TK.out (by omega) hnk hnck hcmk pr pc ps qs HP.out.1 HP.out.2).mono ?_
  rintro e w3 ⟨v3, v4, rfl, hr3, hb3⟩
  obtain ⟨A3, c3, A4, c4, rfl, rfl, _, _⟩ := hr3.form
  have hs3 := hb3.size
  have N2 := Lib.hid (P2.out.below hb3 (by omega))
  have HB3 := Lib.hid (HB2.out.trans (hb3.mono (by omega)))
  have HR := Lib.hid hr3
  clear hr3 hb3 a0 a1 a2 a3 a4 a5 alt P0 P1 P2 T1 T2 TK HB2
  obtain ⟨d0, d1, d2, d3, d4, d5, fd0, fd1, fd2, fd3, fd4, fd5, dlt⟩ := N2.out
  have M2 := Lib.hid ((((((N2.out.set0 (.int .i64 pr)).set1 (.int .i64 pc)).set2 (.slice A3 ps.length c3)).set3 (.int .i64 pr)).set4 (.int .i64 pc)).set5 (.slice A4 qs.length c4))
  have MR := Lib.hid ((((((HR.out.grown (set_grown _ (w.heap.size + 1 + 1) 0 (.int .i64 pr)) (fun g e => by cases e; left; omega)).grown (set_grown _ (w.heap.size + 1 + 1) 1 (.int .i64 pc)) (fun g e => by cases e; left; omega)).grown (set_grown _ (w.heap.size + 1 + 1) 2 (.slice A3 ps.length c3)) (fun g e => by cases e; left; omega)).grown (set_grown _ (w.heap.size + 1 + 1) 3 (.int .i64 pr)) (fun g e => by cases e; left; omega)).grown (set_grown _ (w.heap.size + 1 + 1) 4 (.int .i64 pc)) (fun g e => by cases e; left; omega)).grown (set_grown _ (w.heap.size + 1 + 1) 5 (.slice A4 qs.length c4)) (fun g e => by cases e; left; omega))
  have MB := Lib.hid ((((((HB3.out.setCell (p := ⟨w.heap.size + 1 + 1, 0, none⟩) (show w.heap.size ≤ w.heap.size + 1 + 1 by omega) (.int .i64 pr)).setCell (p := ⟨w.heap.size + 1 + 1, 1, none⟩) (show w.heap.size ≤ w.heap.size + 1 + 1 by omega) (.int .i64 pc)).setCell (p := ⟨w.heap.size + 1 + 1, 2, none⟩) (show w.heap.size ≤ w.heap.size + 1 + 1 by omega) (.slice A3 ps.length c3)).setCell (p := ⟨w.heap.size + 1 + 1, 3, none⟩) (show w.heap.size ≤ w.heap.size + 1 + 1 by omega) (.int .i64 pr)).setCell (p := ⟨w.heap.size + 1 + 1, 4, none⟩) (show w.heap.size ≤ w.heap.size + 1 + 1 by omega) (.int .i64 pc)).setCell (p := ⟨w.heap.size + 1 + 1, 5, none⟩) (show w.heap.size ≤ w.heap.size + 1 + 1 by omega) (.slice A4 qs.length c4))
  have MS : ((((((w3.setCell ⟨w.heap.size + 1 + 1, 0, none⟩ (.int .i64 pr)).setCell ⟨w.heap.size + 1 + 1, 1, none⟩ (.int .i64 pc)).setCell ⟨w.heap.size + 1 + 1, 2, none⟩ (.slice A3 ps.length c3)).setCell ⟨w.heap.size + 1 + 1, 3, none⟩ (.int .i64 pr)).setCell ⟨w.heap.size + 1 + 1, 4, none⟩ (.int .i64 pc)).setCell ⟨w.heap.size + 1 + 1, 5, none⟩ (.slice A4 qs.length c4)).heap.size = w3.heap.size := by simp
  go_wp2
  obtain ⟨Z, hZ⟩ : ∃ Z, ((((((w3.setCell ⟨w.heap.size + 1 + 1, 0, none⟩ (.int .i64 pr)).setCell ⟨w.heap.size + 1 + 1, 1, none⟩ (.int .i64 pc)).setCell ⟨w.heap.size + 1 + 1, 2, none⟩ (.slice A3 ps.length c3)).setCell ⟨w.heap.size + 1 + 1, 3, none⟩ (.int .i64 pr)).setCell ⟨w.heap.size + 1 + 1, 4, none⟩ (.int .i64 pc)).setCell ⟨w.heap.size + 1 + 1, 5, none⟩ (.slice A4 qs.length c4)) = Z := ⟨_, rfl⟩
  rw [hZ] at M2 MR MB MS ⊢
  obtain ⟨z0, z1, z2, z3, z4, z5, _, _, _, _, _, _, _⟩ := M2.out
  refine bodyPost_ret (v := smV pr pc (.slice A3 ps.length c3) pr pc (.slice A4 qs.length c4)) (by simp [results, Try.results47, go_sem, z0, z1, z2, z3, z4, z5]) rfl ?_
  exact ⟨_, _, rfl, MR.out.wider (by omega) (by omega), MB.out⟩
end Go.Proofs.Ytakjmdjjpalaiaa
