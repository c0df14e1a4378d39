/- The walk of the law: transcripts notice every number. -/
import Derived.Test.YtjmchblfihnhjaaFnsA2
import Derived.Test.YtjmchblfihnhjaaDrawT
namespace Go.Proofs.Ytjmchblfihnhjaa
open Go.RowKit

theorem Row.sl_now {w : World} {lo hi : Nat} {A : Option Addr} {c : Nat} {zs : List Int} (h : Row w lo hi (.slice A zs.length c) zs) : Sl w hi A zs := by
  obtain ⟨A', c', hv, _, _, hs⟩ := h.form
  injection hv with h1
  subst h1
  exact hs

set_option maxHeartbeats 800000 in
theorem law_FnTranscriptOf (w : World) (A : Option Addr) (n c : Nat) (h0 : Code8 w A n ∧ n ≤ c ∧ c ≤ maxLen) :
    Calls Try.prog 6 #[.slice A n c] w fun e w' => e = .returned (.bool true) ∧ Below w.heap.size w w' := by
  obtain ⟨hc, hnc, hcm⟩ := h0
  have hcm' := hcm
  unfold maxLen at hcm'
  by_cases hn : 1048576 < n
  · go_enter Try.func6, Try.ntmps6
    go_wp2
    go_ret
    exact ⟨rfl, Below.refl _ _⟩
  obtain ⟨i0, hi, hz0, hz1, hz2⟩ := info_parts info_int
  have hd1 : decide ((1048576 : Int) < (n : Int)) = false := by simp; omega
  go_enter Try.func6, Try.ntmps6
  go_wp2_with fail
  refine (drawTO_any A n c w (by omega) hnc hcm hc).mono ?_
  rintro e w1 ⟨v, zs, rfl, hrow, hlen, hall, hb⟩
  obtain ⟨A1, c1, rfl, hl1, hcm1, hs1⟩ := hrow.form
  have HALL := Lib.hid hall
  clear hall
  go_wp2_with fail
  refine (implTO A1 c1 _ zs w1 hs1 (by omega)).mono ?_
  rintro e w1' ⟨rfl, rfl⟩
  go_wp2_with fail
  refine (specTO A1 c1 _ zs w1 hs1 (by omega)).mono ?_
  rintro e w1' ⟨rfl, rfl⟩
  have hr := txOf_range zs
  by_cases hx : txOf zs < 0
  · have hx1 : txOf zs = -1 := by omega
    rw [hx1]
    go_wp2_with fail
    refine (alive_any _).mono ?_
    rintro e w' ⟨rfl, rfl⟩
    go_wp2
    go_ret
    exact ⟨rfl, hb⟩
  have hl2 : zs.length ≤ 2000 := by
    rcases Nat.lt_or_ge 2000 zs.length with h | h
    · exfalso; have : txOf zs = -1 := if_pos h; omega
    · exact h
  have hto : txOf zs = txFold zs := if_neg (by omega)
  rw [hto] at hx ⊢
  clear hto hr
  obtain ⟨T, hT⟩ : ∃ T, txFold zs = T := ⟨_, rfl⟩
  rw [hT] at hx ⊢
  have HT := Lib.hid hT
  clear hT
  have hd2 : decide (T < 0) = false := by simp; omega
  have hnz : txFold zs ≥ 0 := by rw [HT.out]; omega
  have HSET := Lib.hid (fun k z (hk : k < zs.length) (hz : 0 ≤ z ∧ z ≤ 2147483646) (hne : z ≠ zs.getD k 0) => txFold_set hk hnz hz hne)
  have HV := Lib.hid (fold_valid zs (t := 1) hnz)
  have HS1 := Lib.hid hs1
  clear hs1 hnz
  go_wp2
  go_loopw [5] (fun i wr => ∃ k : Nat, k ≤ zs.length ∧ i = .int .i64 k ∧ Below w1.heap.size w1 wr) (fun i _ => zs.length - (intOf i).toNat)
  case atStart => exact ⟨0, Nat.zero_le _, rfl, Below.refl _ _⟩
  case round =>
    obtain ⟨k, hk, rfl, hnx⟩ := hrel
    have hsz := hnx.size
    by_cases hlt : k < zs.length
    · obtain ⟨b, off, h1, hcell⟩ := HS1.out.below hnx (Nat.le_refl _)
      obtain ⟨rfl, hbB⟩ := h1 (by omega)
      clear h1
      obtain ⟨z, hz⟩ : ∃ z, zs.getD k 0 = z := ⟨_, rfl⟩
      have hzv : 0 ≤ z ∧ z ≤ 2147483646 := HV.out z (by rw [← hz, show zs.getD k 0 = zs[k] by simp [hlt]]; exact List.getElem_mem hlt)
      have hne := Lib.hid (HSET.out k ((z + 1) % 2147483647) hlt (by omega) (by rw [hz]; omega))
      have hck := hcell k hlt
      rw [hz] at hck
      obtain ⟨z0, z1⟩ := hzv
      have HC := Lib.hid hcell
      clear hcell
      have hown0 : (wr.alloc (.cells #[] 3)).ownsRow wr.heap.size 3 1 (.slice (some ⟨wr.heap.size, 0, none⟩) 0 0) 0 [] := World.ownsRow_lit wr #[] 0 (Nat.le_refl _) (by simp [maxLen]) rfl
      obtain ⟨cs, hcs⟩ : ∃ cs, zs.map (Value.int .i64) = cs := ⟨_, rfl⟩
      have hcsl : cs.length = zs.length * 1 := by rw [← hcs]; simp
      have hcsk : ([] ++ cs)[k]? = some (.int .i64 z) := by rw [← hcs, ← hz]; simp [hlt]
      have hnews : ∀ j u, cs[j]? = some u → (wr.alloc (.cells #[] 3)).cell? ((⟨b, off, none⟩ : Addr).add j) = some u := by
        rw [← hcs]
        exact news_sl (fun j hj => (World.cell?_alloc_lt _ _ _ (by show b < wr.heap.size; omega)).trans (HC.out j hj))
      have hone : ∀ u ∈ cs, u.oneCell' = true := by rw [← hcs]; exact ints_oneCell' zs
      have HCS := Lib.hid hcs
      have HCK := Lib.hid hcsk
      clear hcsk hz
      have HCL := Lib.hid hcsl
      have HN := Lib.hid hnews
      have HO := Lib.hid hone
      clear hcs hcsl hnews hone
      go_wp2_with (at_builtin; refine wpList_append_lies _ rfl (.tmp 31) (.tmp 32) 29 rfl wr.heap.size 3 i0 (.int .i64 0) 1 8 Try.underlying29 hi hz0 hz1 hz2 rfl (by decide) (.slice (some ⟨wr.heap.size, 0, none⟩) 0 0) 0 [] rfl hown0 ⟨b, off, none⟩ zs.length c1 cs rfl HCL.out HN.out HO.out (by omega) (by simp only [maxLen]; omega) (by omega) (by simp) (wr.heap.size + 1) (by simp) ?_; intro g cap w2 hown2 hgrow2 hat2 hlt2; have hck2 := (hgrow2.cell ((World.cell?_alloc_lt wr (.cells #[] 3) ⟨b, off + k, none⟩ (by show b < wr.heap.size; omega)).trans hck) (by simp [Value.ownBlock]; omega)); have hst2 := (hown2.cellAt k (by omega)).trans HCK.out; have hfz2 := hown2.frozenAt k; have HOWN := Lib.hid hown2; have HGR := Lib.hid hgrow2; have HAT := Lib.hid hat2; clear hown2 hgrow2 hat2)
      have hs2 : Sl (w2.setCell ⟨g, k, none⟩ (.int .i64 ((z + 1) % 2147483647))) (w2.setCell ⟨g, k, none⟩ (.int .i64 ((z + 1) % 2147483647))).heap.size (some ⟨g, 0, none⟩) (zs.set k ((z + 1) % 2147483647)) := by
        have h5 := (HOWN.out.stored k (.int .i64 ((z + 1) % 2147483647))).1
        refine Sl.of_own (B := wr.heap.size) (c := cap) (n := 0 + zs.length) ?_ (by simpa using hlt2)
        rw [← HCS.out] at h5
        simpa [List.map_set] using h5
      have hbel : Below w1.heap.size w1 (w2.setCell ⟨g, k, none⟩ (.int .i64 ((z + 1) % 2147483647))) := by
        refine ((hnx.alloc hsz _).grown HGR.out (by simp; omega) (fun j hj => by simp [Value.ownBlock] at hj; omega)).setCell ?_ _
        have := (HOWN.out.lt g rfl).1
        show w1.heap.size ≤ g
        omega
      have HBEL := Lib.hid hbel
      clear hbel
      refine (implTO_n _ cap _ zs.length (zs.set k ((z + 1) % 2147483647)) _ hs2 (by simp) (by omega)).mono ?_
      rintro e w4 ⟨rfl, rfl⟩
      have hcmp : (txOf (zs.set k ((z + 1) % 2147483647)) == T) = false := by
        rw [beq_eq_false_iff_ne, ← HT.out]
        have : txOf (zs.set k ((z + 1) % 2147483647)) = txFold (zs.set k ((z + 1) % 2147483647)) := if_neg (by rw [List.length_set]; omega)
        rw [this]
        exact hne.out
      go_wp2
      go_roundw
      case rel => exact ⟨k + 1, by omega, by go_num, HBEL.out⟩
      case measure => simp [intOf]; omega
    · have hkl : k = zs.length := by omega
      by_cases h2000 : zs.length = 2000
      · have hd3 : ((zs.length : Int) == 2000) = true := by rw [beq_iff_eq]; omega
        go_wp2
        go_ret
        exact ⟨rfl, hb.trans (hnx.mono hb.size)⟩
      · have hd3 : ((zs.length : Int) == 2000) = false := by rw [beq_eq_false_iff_ne]; omega
        clear hkl
        have hs9 := HS1.out.below hnx (Nat.le_refl _)
        have hown0 : (wr.alloc (.cells #[] 3)).ownsRow wr.heap.size 3 1 (.slice (some ⟨wr.heap.size, 0, none⟩) 0 0) 0 [] := World.ownsRow_lit wr #[] 0 (Nat.le_refl _) (by simp [maxLen]) rfl
        have hs9' := (hs9.more hsz).keep (w' := wr.alloc (.cells #[] 3)) (fun p hp => World.cell?_alloc_lt _ _ _ hp)
        have HS9 := Lib.hid hs9'
        clear hs9' hs9
        go_wp2_with (first | (refine wpList_append_sl _ (by rfl) (.tmp 51) (.tmp 52) 29 rfl Try.underlying29 wr.heap.size (.slice (some ⟨wr.heap.size, 0, none⟩) 0 0) 0 [] rfl hown0 wr.heap.size A1 c1 zs rfl HS9.out (by simp only [maxLen]; omega) (by omega) (by simp) ?_; intro v2 w2 hown2 hgrow2 hat2; simp only [Nat.zero_add, List.nil_append] at hown2; have h9 : (w2.alloc (.cells #[.int .i64 9] 3)).cell? ⟨w2.heap.size, 0, none⟩ = some (.int .i64 9) := (by rw [World.cell?_alloc_at _ _ _ _ rfl]; rfl); have hsz2 : wr.heap.size ≤ w2.heap.size := Nat.le_trans (by simp) hgrow2.size) | (refine wpList_append_sl _ (by rfl) (.tmp 53) (.tmp 54) 29 rfl Try.underlying29 wr.heap.size v2 zs.length (zs.map (Value.int .i64)) rfl (hown2.alloc _) (w2.heap.size + 1) (some ⟨w2.heap.size, 0, none⟩) 1 [9] rfl ⟨w2.heap.size, 0, fun _ => ⟨rfl, by omega⟩, fun j hj => by simp at hj; subst hj; exact h9⟩ (by simp only [maxLen, List.length_cons, List.length_nil]; omega) (by simp only [List.length_cons, List.length_nil]; omega) (by simp; omega) ?_; intro v3 w3 hown3 hgrow3 hat3; obtain ⟨g3, cap3, rfl, hg3a, hg3⟩ := hown3.form (by simp only [List.length_cons, List.length_nil]; omega)))
        have hs3 : Sl w3 w3.heap.size (some ⟨g3, 0, none⟩) (zs ++ [9]) := Sl.of_own (B := wr.heap.size) (c := cap3) (n := zs.length + 1) (by simpa using hown3) hg3
        have hbel : Below w1.heap.size w1 w3 := (((hnx.alloc hsz _).grown hgrow2 (by simp; omega) (fun j hj => by simp [Value.ownBlock] at hj; omega)).alloc (by omega) _).grown hgrow3 (by simp; omega) (fun j hj => by have := (hown2.lt j hj).1; omega)
        have HBEL := Lib.hid hbel
        have hval : txOf (zs ++ [9]) = txAdd T 9 := by
          have e : txOf (zs ++ [9]) = txFold (zs ++ [9]) := if_neg (by rw [List.length_append, List.length_cons, List.length_nil]; omega)
          rw [e, txFold_snoc, HT.out]
        have HVAL := Lib.hid hval
        clear hval hbel hown3 hgrow3 hgrow2 hown2 hat2 hat3
        refine (implTO_n _ cap3 _ (zs.length + 1) (zs ++ [9]) w3 hs3 (by simp) (by omega)).mono ?_
        rintro e w4 ⟨rfl, rfl⟩
        rw [HVAL.out]
        go_wp2_with fail
        refine (implTA _ _ _).mono ?_
        rintro e w4 ⟨rfl, rfl⟩
        go_wp2
        go_ret
        exact ⟨rfl, hb.trans (HBEL.out.mono hb.size)⟩
end Go.Proofs.Ytjmchblfihnhjaa
