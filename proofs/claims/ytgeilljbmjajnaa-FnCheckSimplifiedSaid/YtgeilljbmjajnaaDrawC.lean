
/- The reference's generator of the arguments of CheckSimplified. -/
import Derived.Test.YtgeilljbmjajnaaDrawS
import Derived.Test.YtgeilljbmjajnaaAppI
import Derived.Deep.RegionHeld3
set_option linter.unusedVariables false
set_option linter.unusedSimpArgs false
namespace Go.Proofs.Ytgeilljbmjajnaa
open Go.RowKit

theorem Own.drew {w w' : World} {base B nb c g p p' : Nat} {A : Option Addr} {v : Value} {zs : List Int} (h : Own w base v zs) (hd : Drew w w' B A nb c g p p') (hg : g < base) : Own w' base v zs :=
  own_block h fun k hk => hd.block k (h.lt2 k hk) (by have := h.lt k hk; omega)
theorem Own.far {w : World} {base : Nat} {v : Value} {zs : List Int} (h : Own w base v zs) {q : Addr} (hq : ∀ k, v.ownBlock = some k → k ≠ q.block) (u : Value) : Own (w.setCell q u) base v zs :=
  own_block h fun k hk => Below.heap_setCell w q u k (hq k hk)
theorem Own.grown {w w' : World} {base : Nat} {v : Value} {zs : List Int} {row : Option Nat} (h : Own w base v zs) (hg : w.grownBy w' row) (hr : ∀ k, row = some k → ∀ j, v.ownBlock = some j → j ≠ k) : Own w' base v zs :=
  own_block h fun k hk => hg.block k (h.lt2 k hk) (fun e => hr k e.symm k hk rfl)
/-- What the generator holds: the reader, the path, the indices so far. -/
structure DC (w W : World) (A : Option Addr) (nb c g q b1 b3 : Nat) (vp : Value) (ps : List Pt) (vk : Value) (zs : List Int) : Prop where
  rd : Rd W w.heap.size A nb c g q
  pts : OwnP W b1 vp ps
  kept : Own W b3 vk zs
  bel : Below w.heap.size w W
  sz : b3 ≤ W.heap.size
  g1 : g < b1
  g3 : g < b3
  lt : ∀ k, vp.ownBlock = some k → k < b3
section
variable {w W W' : World} {A : Option Addr} {nb c g q q' b1 b3 : Nat} {vp vk : Value} {ps : List Pt} {zs : List Int}
theorem DC.later (h : DC w W A nb c g q b1 b3 vp ps vk zs) (hb : Below W.heap.size W W') : DC w W' A nb c g q b1 b3 vp ps vk zs :=
  ⟨h.rd.below hb, h.pts.below hb, h.kept.below hb, h.bel.trans (hb.mono h.bel.size), Nat.le_trans h.sz hb.size, h.g1, h.g3, h.lt⟩
theorem DC.pick (h : DC w W A nb c g q b1 b3 vp ps vk zs) (hb : But W W' g) (hr : Rd W' w.heap.size A nb c g q') : DC w W' A nb c g q' b1 b3 vp ps vk zs :=
  ⟨hr, h.pts.drew (Drew.of_but (p := q) hb hr) h.g1, h.kept.drew (Drew.of_but (p := q) hb hr) h.g3, h.bel.trans (hb.below h.rd.le), by rw [hb.size]; exact h.sz, h.g1, h.g3, h.lt⟩
theorem DC.upd (h : DC w W A nb c g q b1 b3 vp ps vk zs) {vk' : Value} {zs' : List Int} (hk : Own W' b3 vk' zs') (hb : Below b3 W W') : DC w W' A nb c g q b1 b3 vp ps vk' zs' := by
  have hB : w.heap.size ≤ b3 := Nat.le_trans h.rd.le (Nat.le_of_lt h.g3)
  exact ⟨h.rd.keep (hb.mono hB) (hb.block g h.g3), own_block h.pts fun k hk2 => hb.block k (h.lt k hk2), hk, h.bel.trans (hb.mono hB), Nat.le_trans h.sz hb.size, h.g1, h.g3, h.lt⟩
end
set_option maxHeartbeats 4000000 in
theorem drawCheck_any (n c : Nat) (A : Option Addr) (w : World) (hn : n ≤ c) (hc : c ≤ 9223372036854775807) (hA : BytesAt w w.heap.size A n) :
    Calls Try.prog 24 #[.slice A n c] w fun e w' => ∃ v ps most v2 zs, e = .returned (.tuple #[v, .int .i64 most, v2]) ∧ OwnP w' w.heap.size v ps ∧ ps.length ≤ 20 ∧ (-1 ≤ most ∧ most ≤ 30) ∧ Own w' w.heap.size v2 zs ∧ zs.length ≤ 50 ∧ Below w.heap.size w w' := by
  go_enter Try.func24, Try.ntmps24
  go_wp2_with fail
  refine (newReader_any n c A _ hn hc hA).mono ?_
  rintro e w1 ⟨g, nb, rfl, hg, hnb, hr, hx⟩
  have B1 := ext_bel hx
  clear hx
  go_wp2_with fail
  refine (anyPath_any _ nb _ g 0 A _ (by omega) hnb hr).mono ?_
  rintro e w2 ⟨v, ps, p', rfl, hown, hlen, hp', hD⟩
  obtain ⟨A2, n2, c2, rfl⟩ := hown.slice
  have lg := hr.lt
  have B2 : Below w.heap.size w w2 := B1.trans (hD.below hg B1.size)
  have OW := hide hown
  have HD := hide hD.rd
  have hsD := hD.size
  clear hown hD hr
  go_wp2_with fail
  have s2 := B2.size
  have hlg := HD.out.lt
  refine (one_any [0, 1, 2, 4, 9, 30, -1] _ nb _ g p' w2.heap.size 7 3 7 _ A _ (by decide) (by decide) (by omega) hnb (HD.out.to (by (repeat' (first | (with_reducible exact Below.refl _ _) | (with_reducible assumption) | (with_reducible refine below_ext _ ?_ ?_) | (with_reducible refine Below.alloc ?_ ?_ _) | (with_reducible refine Below.drew ?_) | (with_reducible refine below_drewN ?_ _) | (with_reducible refine le_drewN _ ?_) | (with_reducible refine Below.setCell ?_ ?_ _) | (with_reducible exact Nat.le_refl _) | (with_reducible refine le_ext _ ?_) | (with_reducible refine le_alloc _ ?_) | (with_reducible refine le_setCell _ _ ?_) | (with_reducible refine le_drew ?_) | omega | (simp; done) | (simp; omega))))) (RowAt.ints w2 _ [0, 1, 2, 4, 9, 30, -1] _ rfl) (Nat.le_refl _) (fun i hi => rfl) (by omega)).mono ?_
  rintro e w3 ⟨z, rfl, hzm, hb3, hr3⟩
  have hzb : -1 ≤ z ∧ z ≤ 30 := by simp at hzm; omega
  have O3 : OwnP w3 w1.heap.size (.slice A2 n2 c2) ps := (OW.out.below (W := w2.alloc _) (by (repeat' (first | (with_reducible exact Below.refl _ _) | (with_reducible assumption) | (with_reducible refine below_ext _ ?_ ?_) | (with_reducible refine Below.alloc ?_ ?_ _) | (with_reducible refine Below.drew ?_) | (with_reducible refine below_drewN ?_ _) | (with_reducible refine le_drewN _ ?_) | (with_reducible refine Below.setCell ?_ ?_ _) | (with_reducible exact Nat.le_refl _) | (with_reducible refine le_ext _ ?_) | (with_reducible refine le_alloc _ ?_) | (with_reducible refine le_setCell _ _ ?_) | (with_reducible refine le_drew ?_) | omega | (simp; done) | (simp; omega))))).drew (Drew.of_but (p := p') hb3 hr3) lg
  have B3 : Below w.heap.size w w3 := (Below.alloc B2 B2.size _).trans (hb3.below hg)
  have l3 : w2.heap.size + 1 ≤ w3.heap.size := by rw [hb3.size]; simp
  have hp3 := O3.pts
  clear hb3 hzm OW HD hlg
  -- kept := append([]int{}, SimplifyPath(p, most)...)
  go_wp2_with fail
  refine (sSimplify_any ps z A2 n2 c2 _ hp3.1 (by omega) (hp3.2.2.2.to (by (repeat' (first | (with_reducible exact Below.refl _ _) | (with_reducible assumption) | (with_reducible refine below_ext _ ?_ ?_) | (with_reducible refine Below.alloc ?_ ?_ _) | (with_reducible refine Below.drew ?_) | (with_reducible refine below_drewN ?_ _) | (with_reducible refine le_drewN _ ?_) | (with_reducible refine Below.setCell ?_ ?_ _) | (with_reducible exact Nat.le_refl _) | (with_reducible refine le_ext _ ?_) | (with_reducible refine le_alloc _ ?_) | (with_reducible refine le_setCell _ _ ?_) | (with_reducible refine le_drew ?_) | omega | (simp; done) | (simp; omega)))))).mono ?_
  rintro e w4 ⟨v4, rfl, hown4, hx4⟩
  obtain ⟨A4, n4, c4, rfl⟩ := own_slice hown4
  obtain ⟨hz4, _, _, hi4⟩ := hown4.ints
  have hf4 := hown4.form
  have hlz := simplifyOf_len ps z
  have E4 := (Own.empty w3 w3.heap.size (Nat.le_refl _)).below (ext_bel hx4)
  have BB4 : Below w3.heap.size w3 w4 := Below.trans (by (repeat' (first | (with_reducible exact Below.refl _ _) | (with_reducible assumption) | (with_reducible refine below_ext _ ?_ ?_) | (with_reducible refine Below.alloc ?_ ?_ _) | (with_reducible refine Below.drew ?_) | (with_reducible refine below_drewN ?_ _) | (with_reducible refine le_drewN _ ?_) | (with_reducible refine Below.setCell ?_ ?_ _) | (with_reducible exact Nat.le_refl _) | (with_reducible refine le_ext _ ?_) | (with_reducible refine le_alloc _ ?_) | (with_reducible refine le_setCell _ _ ?_) | (with_reducible refine le_drew ?_) | omega | (simp; done) | (simp; omega)))) ((ext_bel hx4).mono (by first | (simp; done) | (simp; omega)))
  have l4 := BB4.size
  have O3H := hide O3
  have R3H := hide hr3
  have lt3 := hide O3.lt2
  have H4 := hide (And.intro hi4 hf4)
  have E4H := hide E4
  clear hown4 hx4 O3 hr3 hi4 hf4 hp3 E4
  go_upto_region 5 with (at_builtin; refine app_ints rfl _ _ rfl w3.heap.size (.slice (some ⟨w3.heap.size, 0, none⟩) 0 0) [] rfl E4H.out A4 n4 c4 w4.heap.size (simplifyOf ps z) rfl hz4 H4.out.1 H4.out.2 (by simp) (by omega) l4 ?_; intro v5 w5 hown5 hb5 hat5 hgr5; obtain ⟨A5, n5, c5, rfl⟩ := own_slice hown5; have BB := hide (BB4.trans hb5); have K5 := hide hown5; clear hown5 hb5 hat5 hgr5)
  have DC5 : Hid (DC w w5 A nb c g (p' + 1) w1.heap.size w3.heap.size (.slice A2 n2 c2) ps (.slice A5 n5 c5) (simplifyOf ps z)) :=
    hide ⟨R3H.out.below BB.out, O3H.out.below BB.out, by simpa using K5.out, B3.trans (BB.out.mono B3.size), BB.out.size, lg, by omega, lt3.out⟩
  have hl5 : (simplifyOf ps z).length = n5 := by have := K5.out.ints.1; simpa using this
  have hn5 : n5 ≤ 21 := by omega
  have hc5 : n5 ≤ c5 ∧ c5 ≤ 9223372036854775807 := by have := K5.out.ints; unfold maxLen at this; exact ⟨this.2.1, this.2.2.1⟩
  obtain ⟨hc51, hc52⟩ := hc5
  have HL5 := hide hl5
  clear K5 hl5 hz4 hlz H4 E4H
  go_cut [29] from 22 to 29 (fun u29 wx => ∃ (bb : Bool) (q : Nat), u29 = .bool bb ∧ (bb = true → 2 < n5) ∧ q ≤ p' + 3 ∧ DC w wx A nb c g q w1.heap.size w3.heap.size (.slice A2 n2 c2) ps (.slice A5 n5 c5) (simplifyOf ps z))
  case first =>
    by_cases h2 : 2 < n5
    · have hd : decide ((2 : Int) < (n5 : Int)) = true := decide_eq_true (by omega)
      go_wp2_with fail
      refine (pick_any 3 _ nb c g (p' + 1) A _ (by omega) (by omega) (by omega) hnb DC5.out.rd).mono ?_
      rintro e w6 ⟨v6, rfl, hv6, hb6, hr6⟩
      go_wp2_with fail
      go_meet
      exact ⟨_, p' + 2, rfl, fun _ => h2, by omega, DC5.out.pick hb6 hr6⟩
    · have hd : decide ((2 : Int) < (n5 : Int)) = false := decide_eq_false (by omega)
      go_wp2_with fail
      go_meet
      exact ⟨false, p' + 1, rfl, fun h => (by cases h), by omega, DC5.out⟩
  case rest =>
    obtain ⟨bb, q, rfl, hbb, hq, hDC⟩ := hcut
    have D6 := hide hDC
    clear hDC DC5 BB O3H R3H
    go_upto_if 29 with (fail)
    go_cut [8, 9] from 30 to 45 (fun u8 u9 wx => ∃ (vk : Value) (zs : List Int) (q : Nat), u8 = vk ∧ zs.length ≤ 21 ∧ q ≤ p' + 6 ∧ DC w wx A nb c g q w1.heap.size w3.heap.size (.slice A2 n2 c2) ps vk zs)
    case first =>
      cases bb
      · go_wp2_with fail
        go_meet
        exact ⟨_, _, q, rfl, by rw [HL5.out]; omega, by omega, D6.out⟩
      · have h2 := hbb rfl
        obtain ⟨m, rfl⟩ : ∃ m, n5 = m + 3 := ⟨n5 - 3, by omega⟩
        have HP := pick_any (m + 1) _ nb c g q A _ (by omega) (by omega) (by omega) hnb D6.out.rd
        rw [show ((m + 1 : Nat) : Int) = (m : Int) + 3 - 2 from by omega] at HP
        have HPH := hide HP
        clear HP hbb
        go_wp2_with fail
        refine HPH.out.mono ?_
        rintro e w6 ⟨v6, rfl, hv6, hb6, hr6⟩
        have D7 := hide (D6.out.pick hb6 hr6)
        obtain ⟨gb, rfl, g1, g2, _, _⟩ := D7.out.kept.head (by omega)
        clear hb6 hr6 D6 HPH
        go_upto_region 7 with (fail)
        have e1 : 1 + (v6 : Int) = ((v6 + 1 : Nat) : Int) := by omega
        rw [e1]
        clear e1
        generalize hkk : v6 + 1 = kk
        have hk1 : 1 ≤ kk := by omega
        have hk2 : kk ≤ m + 1 := by omega
        clear hkk
        have hl6 := D7.out.kept.ints.1
        have hi6 := D7.out.kept.ints.2.2.2
        have k1 := hi6.cut (a := 0) (m := kk) (by omega)
        have k2 := hi6.cut (a := kk + 1) (m := m + 2 - kk) (by omega)
        rw [Nat.zero_add] at k2
        generalize hL1 : ((simplifyOf ps z).drop 0).take kk = L1 at k1
        generalize hL2 : ((simplifyOf ps z).drop (kk + 1)).take (m + 2 - kk) = L2 at k2
        have len1 : L1.length = kk := by rw [← hL1, List.length_take, List.length_drop]; omega
        have len2 : L2.length = m + 2 - kk := by rw [← hL2, List.length_take, List.length_drop]; omega
        have LEN := hide (And.intro len1 len2)
        have k1D : Hid (∀ o : Obj, IntsAt (w6.drew.alloc o) w6.heap.size (some ⟨gb, 0, none⟩) L1) := hide (fun o => k1.below (by (repeat' (first | (with_reducible exact Below.refl _ _) | (with_reducible assumption) | (with_reducible refine below_ext _ ?_ ?_) | (with_reducible refine Below.alloc ?_ ?_ _) | (with_reducible refine Below.drew ?_) | (with_reducible refine below_drewN ?_ _) | (with_reducible refine le_drewN _ ?_) | (with_reducible refine Below.setCell ?_ ?_ _) | (with_reducible exact Nat.le_refl _) | (with_reducible refine le_ext _ ?_) | (with_reducible refine le_alloc _ ?_) | (with_reducible refine le_setCell _ _ ?_) | (with_reducible refine le_drew ?_) | omega | (simp; done) | (simp; omega)))))
        have k2D : Hid (∀ (o : Obj) (W : World), Below w6.heap.size (w6.drew.alloc o) W → IntsAt W w6.heap.size (some ⟨gb, kk + 1, none⟩) L2) := hide (fun o W hb => k2.below (Below.trans (by (repeat' (first | (with_reducible exact Below.refl _ _) | (with_reducible assumption) | (with_reducible refine below_ext _ ?_ ?_) | (with_reducible refine Below.alloc ?_ ?_ _) | (with_reducible refine Below.drew ?_) | (with_reducible refine below_drewN ?_ _) | (with_reducible refine le_drewN _ ?_) | (with_reducible refine Below.setCell ?_ ?_ _) | (with_reducible exact Nat.le_refl _) | (with_reducible refine le_ext _ ?_) | (with_reducible refine le_alloc _ ?_) | (with_reducible refine le_setCell _ _ ?_) | (with_reducible refine le_drew ?_) | omega | (simp; done) | (simp; omega)))) hb))
        have F1 : Hid ((some (⟨gb, 0, none⟩ : Addr) = none → kk = 0) ∧ ∀ b o s, some (⟨gb, 0, none⟩ : Addr) = some ⟨b, o, s⟩ → s = none) := ⟨(fun h => by cases h), (fun b o s h => by injection h with h; injection h with _ _ h; exact h.symm)⟩
        have F2 : Hid ((some (⟨gb, kk + 1, none⟩ : Addr) = none → m + 2 - kk = 0) ∧ ∀ b o s, some (⟨gb, kk + 1, none⟩ : Addr) = some ⟨b, o, s⟩ → s = none) := ⟨(fun h => by cases h), (fun b o s h => by injection h with h; injection h with _ _ h; exact h.symm)⟩
        have N1 : kk ≤ 2000000 := by omega
        have N2 : m + 2 - kk ≤ 2000000 := by omega
        have N3 : Hid (([] ++ L1 : List Int).length ≤ 2000000) := by unfold Hid; rw [List.nil_append]; omega
        have N4 : Hid (∀ o : Obj, w6.heap.size ≤ (w6.drew.alloc o).heap.size) := fun o => (by first | (simp; done) | (simp; omega))
        have sz6 := D7.out.sz
        clear hi6 hl6 len1 len2 hL1 hL2 k1 k2
        have q2 : (kk : Int) ≤ (c5 : Int) := by omega
        have q4 : (kk : Int) + 1 ≤ (m : Int) + 3 := by omega
        have q6 : ¬ c5 = kk + 1 := by omega
        have q5 : ((kk : Int) + 1).toNat = kk + 1 := by omega
        have q7 : (0 : Int) ≤ (kk : Int) + 1 := by omega
        have q8 : IntKind.i64.wrap ((kk : Int) + 1) = (kk : Int) + 1 := IntWalk.i64_in _ (by omega)
        go_region_held3 (fun W => True) (exact trivial) (first | (refine step_ints (by rfl) (.tmp 36) (.tmp 39) (by rfl) w6.heap.size (.slice (some ⟨w6.heap.size, 0, none⟩) 0 0) [] (by rfl) (Own.empty _ _ (Nat.le_refl _)) (some ⟨gb, 0, none⟩) kk c5 w6.heap.size L1 (by rfl) LEN.out.1 (k1D.out _) F1.out (Nat.zero_le _) N1 (N4.out _) ?_; intro v7 w7 hown7 hb7 hat7 hgr7; obtain ⟨A7, n7, c7, rfl⟩ := own_slice hown7; have k27 := hide (k2D.out _ _ hb7); have N5 := hb7.size; have O7 := hide hown7; clear hown7 hat7 hgr7) | (refine step_ints (by rfl) (.tmp 40) (.tmp 44) (by rfl) w6.heap.size (.slice A7 n7 c7) ([] ++ L1) (by rfl) O7.out (some ⟨gb, kk + 1, none⟩) (m + 2 - kk) (c5 - (kk + 1)) w6.heap.size L2 (by rfl) LEN.out.2 k27.out F2.out N3.out N2 (Nat.le_trans (N4.out _) N5) ?_; intro v8 w8 hown8 hb8 hat8 hgr8; obtain ⟨A8, n8, c8, rfl⟩ := own_slice hown8; have O8 := hide hown8; clear hown8 hat8 hgr8))
        go_wp2_with fail
        go_meet
        have LL : ([] ++ L1 ++ L2).length ≤ 21 := by rw [List.nil_append, List.length_append, LEN.out.1, LEN.out.2]; omega
        have BF : Below w6.heap.size w6 w8 := Below.trans (Below.trans (by (repeat' (first | (with_reducible exact Below.refl _ _) | (with_reducible assumption) | (with_reducible refine below_ext _ ?_ ?_) | (with_reducible refine Below.alloc ?_ ?_ _) | (with_reducible refine Below.drew ?_) | (with_reducible refine below_drewN ?_ _) | (with_reducible refine le_drewN _ ?_) | (with_reducible refine Below.setCell ?_ ?_ _) | (with_reducible exact Nat.le_refl _) | (with_reducible refine le_ext _ ?_) | (with_reducible refine le_alloc _ ?_) | (with_reducible refine le_setCell _ _ ?_) | (with_reducible refine le_drew ?_) | omega | (simp; done) | (simp; omega)))) hb7) hb8
        exact ⟨_, _, q + 1, rfl, LL, by omega, D7.out.upd (O8.out.base sz6) (BF.mono sz6)⟩
    case rest =>
      obtain ⟨vk, zs, q2, rfl, hzl, hq2, hD2⟩ := hcut
      obtain ⟨Ak, nk, ck, rfl⟩ := own_slice hD2.kept
      have hlk := hD2.kept.ints.1
      have hck := hD2.kept.ints.2.2.1
      unfold maxLen at hck
      have D8 := hide hD2
      clear hD2 D6
      by_cases h0 : 0 < nk
      · have hd : decide ((0 : Int) < (nk : Int)) = true := decide_eq_true (by omega)
        obtain ⟨gb, rfl, g1, g2, _, _⟩ := D8.out.kept.head (by omega)
        go_wp2_with fail
        refine (pick_any 10 _ nb c g q2 A _ (by omega) (by omega) (by omega) hnb D8.out.rd).mono ?_
        rintro e w6 ⟨v6, rfl, hv6, hb6, hr6⟩
        have D9 := hide (D8.out.pick hb6 hr6)
        clear hb6 hr6
        by_cases hv : v6 = 0
        · subst hv
          obtain ⟨m, rfl⟩ : ∃ m, nk = m + 1 := ⟨nk - 1, by omega⟩
          go_wp2_with fail
          refine (pick_any 12 _ nb c g (q2 + 1) A _ (by omega) (by omega) (by omega) hnb D9.out.rd).mono ?_
          rintro e w7 ⟨v7, rfl, hv7, hb7, hr7⟩
          have D10 := hide (D9.out.pick hb7 hr7)
          obtain ⟨gb', hgb, g3, g4, hfr, hcs⟩ := D10.out.kept.head (by omega)
          injection hgb with hgb
          injection hgb with hgb
          subst hgb
          have k1 := hcs m (by omega)
          have f1 := hfr m
          have OF := hide (D10.out.kept.set (i := m) (by omega) (v7 : Int))
          have BF : Hid (Below w3.heap.size w7 (w7.setCell ⟨gb, m, none⟩ (.int .i64 (v7 : Int)))) := hide ((Below.refl _ _).setCell g3 _)
          clear hb7 hr7 hfr hcs
          go_wp2
          go_ret3
          have DF := D10.out.upd OF.out BF.out
          exact ⟨_, ps, z, _, _, rfl, DF.pts.base B1.size, hlen, hzb, DF.kept.base B3.size, by rw [List.length_set]; omega, DF.bel⟩
        · have hd2 : ((v6 : Int) == 0) = false := by rw [beq_eq_false_iff_ne]; omega
          go_wp2
          go_ret3
          exact ⟨_, ps, z, _, _, rfl, D9.out.pts.base B1.size, hlen, hzb, D9.out.kept.base B3.size, by omega, D9.out.bel⟩
      · have hd : decide ((0 : Int) < (nk : Int)) = false := decide_eq_false (by omega)
        go_wp2
        go_ret3
        exact ⟨_, ps, z, _, _, rfl, D8.out.pts.base B1.size, hlen, hzb, D8.out.kept.base B3.size, by omega, D8.out.bel⟩
end Go.Proofs.Ytgeilljbmjajnaa
