/- The walk of the law: tasks wait for earlier ones. -/
import Derived.Test.YtfkccdmjlopleaaAppSS
namespace Go.Proofs.Ytfkccdmjlopleaa
open Go.RowKit

theorem SS.take {w : World} {B : Nat} {A : Option Addr} {zss : List (List Int)} (h : SS w B A zss) (n : Nat) (hn : n ≤ zss.length) : SS w B A (zss.take n) := by
  obtain ⟨b, off, h1, h2⟩ := h
  refine ⟨b, off, fun hp => h1 (by simp at hp; omega), fun j hj => ?_⟩
  have hj' : j < n := by simp at hj; omega
  rw [show at2 (zss.take n) j = at2 zss j by unfold at2; simp [List.getElem?_take, hj']]
  exact h2 j (by omega)
theorem okT_take {zss : List (List Int)} (h : OkT zss) (n : Nat) (hn : n ≤ zss.length) : OkT (zss.take n) := by
  have hl : (zss.take n).length = n := by simp; omega
  refine ⟨by have := h.1; omega, fun t ht => ?_⟩
  rw [hl] at ht
  rw [show at2 (zss.take n) t = at2 zss t by unfold at2; simp [List.getElem?_take, ht]]
  exact h.2 t (by omega)
theorem not_ok_self (zss : List (List Int)) : ¬ OkT (zss ++ [[(zss.length : Int)]]) := by
  have e : at2 (zss ++ [[(zss.length : Int)]]) zss.length = [(zss.length : Int)] := by unfold at2; simp
  exact not_okT_in (k := zss.length) (j := 0) (by simp) (by rw [e]; simp) (by rw [e]; right; simp)

set_option maxHeartbeats 3200000 in
theorem law_FnTasksValid (w : World) (A : Option Addr) (n c : Nat) (h0 : Code8 w A n ∧ n ≤ c ∧ c ≤ maxLen) :
    Calls Try.prog 4 #[.slice A n c] w fun e w' => e = .returned (.bool true) ∧ Below w.heap.size w w' := by
  obtain ⟨hc, hnc, hcm⟩ := h0
  have hcm' := hcm
  unfold maxLen at hcm'
  by_cases hn : 1048576 < n
  · go_enter Try.func4, Try.ntmps4
    go_wp2
    go_ret
    exact ⟨rfl, Below.refl _ _⟩
  have hd1 : decide ((1048576 : Int) < (n : Int)) = false := by simp; omega
  go_enter Try.func4, Try.ntmps4
  go_wp2_with fail
  refine (drawTasksValid A n c w (by omega) hnc hcm hc).mono ?_
  rintro e w1 ⟨v, zss, A1, c1, rfl, rfl, hl1, hcm1, hs1, hsm, hb⟩
  have HS1 := Lib.hid hs1
  have HSM := Lib.hid (show Small 2000000 zss from ⟨by have := hsm.1; omega, fun j hj => by have := hsm.2 j hj; omega⟩)
  have HSM20 := Lib.hid hsm
  have hz20 := hsm.1
  clear hs1 hsm
  have HB := Lib.hid (okTB_iff zss)
  obtain ⟨R, hR⟩ : ∃ R, okTB zss = R := ⟨_, rfl⟩
  rw [hR] at HB
  clear hR
  go_wp2_with fail
  refine (implTV_any A1 c1 _ zss w1 HS1.out HSM.out R HB.out).mono ?_
  rintro e w' ⟨rfl, rfl⟩
  go_wp2_with fail
  refine (specTV_any A1 c1 _ zss w1 HS1.out HSM.out R HB.out).mono ?_
  rintro e w' ⟨rfl, rfl⟩
  have hG0 := lit0V w1
  have hb2 : Below w1.heap.size w1 (w1.alloc (.cells #[] 29)) := (Below.refl _ _).alloc (Nat.le_refl _) _
  have hs2 := HS1.out.below hb2 (Nat.le_refl _)
  have HG0 := Lib.hid hG0
  have HS2 := Lib.hid hs2
  clear hG0 hs2
  go_wp2_with (at_builtin; first
    | ((refine wpList_appSS rfl (.tmp 16) (.tmp 17) rfl w1.heap.size (w1.heap.size + 1) (.slice (some ⟨w1.heap.size, 0, none⟩) 0 0) [] rfl HG0.out w1.heap.size A1 c1 zss rfl HS2.out (by simp; omega) (by simp) (by simp) ?_)
       go_loud (
         intro v2 w2 us hu2 hG2 hg2 hblk2
         have hb3 : Below w1.heap.size w1 w2 := hb2.grown hg2 (by simp) (fun g e => by simp [Value.ownBlock] at e; omega)
         have hu3 := (show Hdr w1 w1.heap.size us zss from ⟨hu2.1, fun j hj => by obtain ⟨A', c', h1, h2, h3, h4⟩ := hu2.2 j hj; exact ⟨A', c', h1, h2, h3, h4.keep (fun _ hp => (hb2.cell hp).symm)⟩⟩).below hb3 (Nat.le_refl _)
         have hsz2 := hb3.size
         have hal := World.grownBy_alloc w2 (.cells #[.int .i64 (zss.length : Int)] 3) none
         have hal2 := World.grownBy_alloc (w2.alloc (.cells #[.int .i64 (zss.length : Int)] 3)) (.cells #[.slice (some ⟨w2.heap.size, 0, none⟩) 1 1] 29) none
         rw [List.nil_append] at hG2
         have hul := hu3.1
         obtain ⟨A2, c2, hv2, _, _⟩ := hG2.form
         rw [hul] at hv2
         subst hv2
         have hGB := Lib.hid ((hG2.grown hal (fun g e => by cases e)).grown hal2 (fun g e => by cases e))
         have hbG := Lib.hid hG2.block_lt
         have hb4 : Below w1.heap.size w1 ((w2.alloc (.cells #[.int .i64 (zss.length : Int)] 3)).alloc (.cells #[.slice (some ⟨w2.heap.size, 0, none⟩) 1 1] 29)) := (hb3.alloc hsz2 _).alloc (by simp; omega) _
         have hl4 := Lib.hid ((lit_row w2 [(zss.length : Int)] (by simp)).grown hal2 (fun g e => by cases e))
         have HU3 := Lib.hid hu3
         have HB3 := Lib.hid hb3
         clear hu2 hG2 hg2 hblk2 hal hal2 hu3 hb3))
    | (go_loud (refine wpList_appV rfl (.tmp 18) (.tmp 22) rfl w1.heap.size w2.heap.size (.slice A2 zss.length c2) us rfl hGB.out ⟨w2.heap.size + 1, 0, none⟩ 1 1 [.slice (some ⟨w2.heap.size, 0, none⟩) 1 1] rfl rfl (fun j u hj => ?news) (by intro u hu; simp at hu; subst hu; rfl) (by omega) (by simp; omega) ?_)
       rotate_left
       intro v5 w5 hG5 hg5 hblk5))
  case news => match j, hj with
    | 0, hj => simp at hj; subst hj; rw [add_at]; exact World.cell?_alloc_at _ _ _ _ (by simp)
  have hlen : (zss ++ [[(zss.length : Int)]]).length = zss.length + 1 := by simp
  have hb5 : Below w1.heap.size w2 w5 := (((Below.refl _ _).alloc hsz2 _).alloc (by simp; omega) _).grown hg5 (by simp; omega) (fun g e => (hbG.out g e).1)
  have hsz5 := hg5.size
  have hl5 := (hl4.out.kept' hg5 (own_ne (lo := w2.heap.size) (fun g h => by simp [Value.ownBlock] at h; omega) (fun g h => (hbG.out g h).2)))
  have hsl5 : Sl w5 w5.heap.size (some ⟨w2.heap.size, 0, none⟩) [(zss.length : Int)] := by
    have h := hl5.sl_of.2
    exact h.more (by simp at hsz5; omega)
  have hu5 := ((HU3.out.below hb5 (Nat.le_refl _)).more (show w1.heap.size ≤ w5.heap.size by simp at hsz5; omega)).snoc (A := some ⟨w2.heap.size, 0, none⟩) (c := 1) (zs := [(zss.length : Int)]) (by simp) (by simp [maxLen]) hsl5
  obtain ⟨A5, c5, hv5, _, _, hs5⟩ := hu5.ss hG5 (Nat.le_refl _)
  rw [hlen] at hv5
  subst hv5
  have hno := implTV_no A5 c5 w5.heap.size (zss ++ [[(zss.length : Int)]]) w5 hs5 (Small.snoc HSM.out (by omega) (by simp)) (not_ok_self zss)
  rw [hlen] at hno
  have hb15 := HB3.out.trans (hb5.mono (Nat.le_refl _))
  have hbz := hb.trans (hb15.mono hb.size)
  have HS5 := Lib.hid (HS1.out.below hb15 (Nat.le_refl _))
  have hs12 := hb15.size
  clear hs5 hu5 hsl5 hl5 hG5 hg5 hblk5 hb5 hlen hsz5 hb4 hb2 hbG hGB hl4 hb15
  go_wp2_with fail
  refine hno.mono ?_
  rintro e w' ⟨rfl, rfl⟩
  clear hno
  cases R with
  | false =>
    go_wp2_with fail
    refine (alive_any _).mono ?_
    rintro e w' ⟨rfl, rfl⟩
    go_wp2
    go_ret
    exact ⟨rfl, hbz⟩
  | true =>
    have hok := okT_take (HB.out.1 rfl) (zss.length / 2) (by omega)
    have hyes := implTV_yes A1 c1 w1.heap.size (zss.take (zss.length / 2)) w5 (HS5.out.take _ (by omega)) ⟨by simp; omega, fun j hj => by
      have hj' : j < zss.length / 2 := by simp at hj; omega
      rw [show at2 (zss.take (zss.length / 2)) j = at2 zss j by unfold at2; simp [List.getElem?_take, hj']]
      exact HSM.out.2 j (by omega)⟩ hok
    rw [show (zss.take (zss.length / 2)).length = zss.length / 2 by simp; omega] at hyes
    go_wp2_with fail
    refine hyes.mono ?_
    rintro e w' ⟨rfl, rfl⟩
    clear hyes
    go_wp2_with fail
    refine (alive_any _).mono ?_
    rintro e w' ⟨rfl, rfl⟩
    go_wp2
    go_ret
    exact ⟨rfl, hbz⟩
end Go.Proofs.Ytfkccdmjlopleaa
