
/- Reading points: the reference's parsePoints, DecodePoints. -/
import Derived.Test.YtlggmjofglmjcaaDoorEncP
import Derived.Test.YtlggmjofglmjcaaDoorDecS
set_option linter.unusedVariables false
set_option linter.unusedSimpArgs false
namespace Go.Proofs.YtlggmjofglmjcaaDoor
open Go.RowKit

theorem strs_grown {w w' : World} {row : Option Nat} {b o : Nat} {ss : List (List UInt8)} (hb : b < w.heap.size) (hg : w.grownBy w' row) (hne : row ≠ some b)
    (h : ∀ i, i < ss.length → w.cell? ⟨b, o + i, none⟩ = some (.string (bS (gstr ss i)))) : ∀ i, i < ss.length → w'.cell? ⟨b, o + i, none⟩ = some (.string (bS (gstr ss i))) := fun i hi => by
  rw [World.cell?_of_block (a := ⟨b, o + i, none⟩) (hg.block b hb (fun e => hne e.symm))]
  exact h i hi
theorem strs_below {w w' : World} {B b o : Nat} {ss : List (List UInt8)} (hb : b < B) (hg : Below B w w')
    (h : ∀ i, i < ss.length → w.cell? ⟨b, o + i, none⟩ = some (.string (bS (gstr ss i)))) : ∀ i, i < ss.length → w'.cell? ⟨b, o + i, none⟩ = some (.string (bS (gstr ss i))) := fun i hi =>
  (hg.cell (p := ⟨b, o + i, none⟩) hb).trans (h i hi)
theorem rdL_take {ss : List (List UInt8)} {k : Nat} (hk : k < ss.length) : (ss.take (k + 1)).map rdP = (ss.take k).map rdP ++ [rdP (gstr ss k)] := by
  rw [List.take_succ_eq_append_getElem hk, List.map_append, ← gstr_lt hk]; rfl
theorem rdP_yes {m : List UInt8} (h : (Lib.cut m [32]).2.2 = true) : rdP m = ⟨parI (Lib.cut m [32]).1, parI (Lib.cut m [32]).2.1⟩ := by unfold rdP; rw [if_pos h]
theorem rdP_no {m : List UInt8} (h : ¬ (Lib.cut m [32]).2.2 = true) : rdP m = ⟨parI (Lib.cut m [32]).1, 0⟩ := by unfold rdP; rw [if_neg h]
set_option maxHeartbeats 4000000 in
theorem sParse_any (l : List UInt8) (w : World) (hl : l.length ≤ 2000000) :
    Calls Tryd.prog 56 #[.string (bS l)] w fun e w' => ∃ v, e = .returned v ∧ OwnP w' w.heap.size v (rdL l) ∧ ∃ x, w' = ext w x := by
  have SP := hide (fun (W : World) => (show Calls Tryd.prog 43 #[.string (bS l), .int .u8 44, .int .i64 20] W fun e w' => ∃ v, e = .returned v ∧ OwnS w' W.heap.size v (splN l 44 20) ∧ ∃ x, w' = ext W x from split_any l 44 20 W hl (by omega)))
  have SQ := hide (fun (m : List UInt8) (W : World) (hm : m.length ≤ l.length) => (show Calls Tryd.prog 43 #[.string (bS m), .int .u8 32, .int .i64 1] W fun e w' => ∃ v, e = .returned v ∧ OwnS w' W.heap.size v (splN m 32 1) ∧ ∃ x, w' = ext W x from split_any m 32 1 W (by omega) (by omega)))
  have PA := hide (fun (m : List UInt8) (W : World) (h : m.length ≤ l.length) => parse_any m W (by omega))
  have LEN := hide (splN_mem l 44 20)
  have NE := hide (splN_ne l 44 20)
  have L21 := splN_len l 44 20
  unfold rdL
  generalize splN l 44 20 = pcz at *
  have E0 := hide (OwnP.empty w w.heap.size 0 (Nat.le_refl _) #[] rfl (by simp [maxLen]))
  go_enter Tryd.func56, Tryd.ntmps56
  go_wp2_with fail
  refine (SP.out _).mono ?_
  rintro e w1 ⟨v1, rfl, hown, hx⟩
  obtain ⟨A1, n1, c1, rfl⟩ := hown.slice
  obtain ⟨hn1, hc1, _, hs1⟩ := hown.strs
  obtain ⟨b, o, rfl, hb, hcs⟩ := hs1 NE.out
  have hbo := (World.ownsRow.lt hown b rfl).1
  have D1 := ext_bel hx
  have B1 := hide (((by (repeat' (first | (with_reducible first | exact Below.refl _ _ | assumption | refine below_ext _ ?_ ?_ | refine Below.alloc ?_ ?_ _ | refine Below.drew ?_ | refine below_drewN ?_ _ | refine le_drewN _ ?_ | refine Below.setCell ?_ ?_ _ | exact Nat.le_refl _ | refine le_ext _ ?_ | refine le_alloc _ ?_ | refine le_setCell _ _ ?_ | refine le_drew ?_) | omega | (simp; done) | (simp; omega)))) : Below w.heap.size w (w.alloc (.cells #[] 57))).trans (D1.mono (by first | omega | (simp; done) | (simp; omega))))
  have O1 := hide (E0.out.below D1)
  have HCS := hide hcs
  have hbn : Hid (some w.heap.size ≠ some b) := hide (fun e => by injection e with e; rw [size_alloc] at hbo; omega)
  have hbl := hide hb
  clear hx hown hs1 hbo D1 SP E0 hcs hb
  go_wp2_with fail
  go_loopw [3, 5] (fun u3 u5 wr => ∃ (k : Nat), k ≤ n1 ∧ u5 = .int .i64 k ∧ OwnP wr w.heap.size u3 ((pcz.take k).map rdP) ∧ Hid (∀ i, i < pcz.length → wr.cell? ⟨b, o + i, none⟩ = some (.string (bS (gstr pcz i)))) ∧ Hid (u3.ownBlock ≠ some b) ∧ Hid (b < wr.heap.size) ∧ Below w.heap.size w wr) (fun _ u5 _ => n1 - (intOf u5).toNat)
  case atStart => exact ⟨0, Nat.zero_le _, rfl, O1.out, HCS, hbn, hbl, B1.out⟩
  case round =>
    obtain ⟨k, hk, rfl, hown, HC, HB, HL, hbel⟩ := hrel
    obtain ⟨A0, n0, c0, rfl⟩ := hown.slice
    have OWN := hide hown
    have BEL := hide hbel
    have hsz := hbel.size
    clear hown hbel
    by_cases hlt : k < n1
    · have ck := HC.out k (by omega)
      have TK := hide (rdL_take (ss := pcz) (k := k) (by omega))
      have hmlen := LEN.out (gstr pcz k) (gstr_mem (by omega))
      have NL : ((pcz.take k).map rdP).length ≤ 2000000 := by rw [List.length_map, List.length_take]; omega
      generalize gstr pcz k = m at *
      have e1 := splN_1 m 32
      have lens := cut_len m 32
      go_wp2_with fail
      refine (SQ.out _ _ hmlen).mono ?_
      rintro e w2 ⟨v2, rfl, hown, hx⟩
      obtain ⟨A2, n2, c2, rfl⟩ := hown.slice
      obtain ⟨hn2, hc2, _, hs2⟩ := hown.strs
      have B2 := hide (ext_bel hx)
      have z2 := B2.out.size
      rw [e1] at hn2 hs2
      clear hown hx e1 ck
      by_cases hp : (Lib.cut m [32]).2.2 = true
      · rw [if_pos hp] at hn2 hs2
        have RD := hide (rdP_yes hp)
        have en : n2 = 2 := by rw [← hn2]; rfl
        subst en
        obtain ⟨b2, o2, rfl, hb2, hcs2⟩ := hs2 (by simp)
        have cs0 : w2.cell? ⟨b2, o2, none⟩ = some (.string (bS (Lib.cut m [32]).1)) := hcs2 0 (by simp)
        have cs1 : w2.cell? ⟨b2, o2 + 1, none⟩ = some (.string (bS (Lib.cut m [32]).2.1)) := hcs2 1 (by simp)
        clear hcs2 hn2 hp hs2
        generalize (Lib.cut m [32]).1 = la at *
        generalize (Lib.cut m [32]).2.1 = lb at *
        go_wp2_with fail
        refine (PA.out _ _ (by omega)).mono ?_
        rintro e w3 ⟨rfl, hx⟩
        have B3 := hide (B2.out.trans ((ext_bel hx).mono B2.out.size))
        have cs2 := ((ext_bel hx).cell (p := ⟨b2, o2 + 1, none⟩) hb2).trans cs1
        have hb3 := Nat.lt_of_lt_of_le hb2 (ext_bel hx).size
        have z3 := B3.out.size
        clear hx cs0 cs1 z2
        generalize parI la = X at *
        go_wp2_with fail
        refine (PA.out _ _ (by omega)).mono ?_
        rintro e w4 ⟨rfl, hx⟩
        have K4 := hide (blk_keep (heap_alloc_new w3 (.cells #[.int .i64 X, .int .i64 0] 57)) (ext_bel hx))
        have B4 := hide ((B3.out.alloc B3.out.size (.cells #[.int .i64 X, .int .i64 0] 57)).trans ((ext_bel hx).mono (by first | omega | (simp; done) | (simp; omega))))
        have l4 := heap_lt K4.out
        have k41 : _ = some (Value.int .i64 0) := heap_cell K4.out 1
        have k42 := heap_frozen K4.out 1
        clear hx cs2
        generalize parI lb = Y at *
        have K5 := hide (box2Y K4.out (.int .i64 Y))
        have BZ : Hid (Below wr.heap.size wr (w4.setCell ⟨w3.heap.size, 1, none⟩ (.int .i64 Y))) := hide (B4.out.setCell (by simp; omega) _)
        have z5 : (w4.setCell ⟨w3.heap.size, 1, none⟩ (.int .i64 Y)).heap.size = w4.heap.size := by simp
        have k50 : _ = some (Value.int .i64 X) := heap_cell K5.out 0
        have k51 : _ = some (Value.int .i64 Y) := heap_cell K5.out 1
        go_wp2_with (at_builtin; refine app_pt rfl _ _ rfl w.heap.size (.slice A0 n0 c0) ((pcz.take k).map rdP) rfl (OWN.out.below (BZ.out.alloc BZ.out.size _)) X Y _ _ rfl (by simp [go_sem]) (by simp [go_sem]) NL (by simp; omega) ?_; intro v' w' hown' hb' hat hgr; have HB9 := hide hb'; have HAT := hide hat; have HGR := hide hgr; clear hat hgr hb'; obtain ⟨A9, n9, c9, rfl⟩ := hown'.slice; have O9 := hide hown'; clear hown')
        have hz := BZ.out.size
        have BF := hide ((BEL.out.trans ((BZ.out.alloc BZ.out.size _).mono BEL.out.size)).trans HB9.out)
        exact ⟨⟨k + 1, by omega, by go_num, by rw [TK.out, RD.out]; exact O9.out, hide (strs_grown (by simp; have := HL.out; omega) HGR.out HB.out (strs_below HL.out (BZ.out.alloc BZ.out.size _) HC.out)), hide (by
          rcases HAT.out with h | h
          · rw [h]; exact HB.out
          · rw [h]; intro e; injection e with e; rw [size_alloc] at e; have := HL.out; omega), hide (by have h1 := HGR.out.size; have h2 := HL.out; have h3 := BZ.out.size; simp at h1 h3; omega), BF.out⟩, by simp [intOf]; omega⟩
      · rw [if_neg hp] at hn2 hs2
        have RD := hide (rdP_no hp)
        have en : n2 = 1 := by rw [← hn2]; rfl
        subst en
        obtain ⟨b2, o2, rfl, hb2, hcs2⟩ := hs2 (by simp)
        have cs0 : w2.cell? ⟨b2, o2, none⟩ = some (.string (bS (Lib.cut m [32]).1)) := hcs2 0 (by simp)
        clear hcs2 hn2 hp hs2
        generalize (Lib.cut m [32]).1 = la at *
        generalize (Lib.cut m [32]).2.1 = lb at *
        go_wp2_with fail
        refine (PA.out _ _ (by omega)).mono ?_
        rintro e w3 ⟨rfl, hx⟩
        have B3 := hide (B2.out.trans ((ext_bel hx).mono B2.out.size))
        have z3 := B3.out.size
        clear hx cs0 z2
        generalize parI la = X at *
        have K5 := hide (heap_alloc_new w3 (.cells #[.int .i64 X, .int .i64 0] 57))
        have BZ : Hid (Below wr.heap.size wr (w3.alloc (.cells #[.int .i64 X, .int .i64 0] 57))) := hide (B3.out.alloc B3.out.size _)
        have k50 : _ = some (Value.int .i64 X) := heap_cell K5.out 0
        have k51 : _ = some (Value.int .i64 0) := heap_cell K5.out 1
        have z5 : (w3.alloc (.cells #[.int .i64 X, .int .i64 0] 57)).heap.size = w3.heap.size + 1 := by simp
        go_wp2_with (at_builtin; refine app_pt rfl _ _ rfl w.heap.size (.slice A0 n0 c0) ((pcz.take k).map rdP) rfl (OWN.out.below (BZ.out.alloc BZ.out.size _)) X 0 _ _ rfl (by simp [go_sem]) (by simp [go_sem]) NL (by simp; omega) ?_; intro v' w' hown' hb' hat hgr; have HB9 := hide hb'; have HAT := hide hat; have HGR := hide hgr; clear hat hgr hb'; obtain ⟨A9, n9, c9, rfl⟩ := hown'.slice; have O9 := hide hown'; clear hown')
        have hz := BZ.out.size
        have BF := hide ((BEL.out.trans ((BZ.out.alloc BZ.out.size _).mono BEL.out.size)).trans HB9.out)
        exact ⟨⟨k + 1, by omega, by go_num, by rw [TK.out, RD.out]; exact O9.out, hide (strs_grown (by simp; have := HL.out; omega) HGR.out HB.out (strs_below HL.out (BZ.out.alloc BZ.out.size _) HC.out)), hide (by
          rcases HAT.out with h | h
          · rw [h]; exact HB.out
          · rw [h]; intro e; injection e with e; rw [size_alloc] at e; have := HL.out; omega), hide (by have h1 := HGR.out.size; have h2 := HL.out; have h3 := BZ.out.size; simp at h1 h3; omega), BF.out⟩, by simp [intOf]; omega⟩
    · have e0 : pcz.take k = pcz := List.take_of_length_le (by omega)
      have OWN1 : Hid (OwnP wr w.heap.size (.slice A0 n0 c0) (pcz.map rdP)) := hide (by have := OWN.out; rw [e0] at this; exact this)
      clear e0 OWN
      go_wp2
      go_ret
      exact ⟨_, rfl, OWN1.out, ext_mk BEL.out⟩
set_option maxHeartbeats 4000000 in
theorem sDecL_any (l : List UInt8) (w : World) (hl : l.length ≤ 2000000) :
    Calls Tryd.prog 27 #[.string (bS l)] w fun e w' => ∃ v, e = .returned (.tuple #[v, .bool (decL l).2]) ∧ OwnP w' w.heap.size v (decL l).1 ∧ ∃ x, w' = ext w x := by
  have SP := hide (fun W => sParse_any l W hl)
  have len := rdL_ne l
  have l21 : (rdL l).length ≤ 21 := by unfold rdL; rw [List.length_map]; exact splN_len l 44 20
  have EQ := bS_ne (encL (rdL l)) l
  have VP := hide (fun (A : Option Addr) (n c : Nat) (W : World) hn hm hs => validPoints_any (rdL l) A n c W hn hm hs)
  by_cases hv : listOk (rdL l) = true
  · have FR := hide (fun (A : Option Addr) (n c : Nat) (W : World) hn hs => fmtL_any (rdL l) A n c W hn hv hs)
    rw [hv] at VP
    by_cases he : encL (rdL l) = l
    · rw [dS_yes ⟨hv, he⟩]
      rw [decide_eq_true he] at EQ
      clear hv he len
      generalize bS (encL (rdL l)) = S at *
      generalize rdL l = R at *
      go_enter Tryd.func27, Tryd.ntmps27
      go_wp2_with fail
      refine (SP.out _).mono ?_
      rintro e w1 ⟨v1, rfl, hown, hx⟩
      obtain ⟨A1, n1, c1, rfl⟩ := hown.slice
      obtain ⟨hn1, hc1, _, hs1⟩ := hown.pts
      have B1 := hide (ext_bel hx)
      have O1 := hide hown
      clear hx hown
      go_wp2_with fail
      refine (VP.out _ _ _ _ hn1 (by omega) hs1).mono ?_
      rintro e w' ⟨rfl, hw'⟩; have hzy1 := ext_sz hw'; obtain ⟨y1, rfl⟩ := hw'; (try simp at hzy1)
      go_wp2_with ((go_at_call 37; refine (FR.out _ _ _ _ hn1 (hs1.to (by (repeat' (first | (with_reducible first | exact Below.refl _ _ | assumption | refine below_ext _ ?_ ?_ | refine Below.alloc ?_ ?_ _ | refine Below.drew ?_ | refine below_drewN ?_ _ | refine le_drewN _ ?_ | refine Below.setCell ?_ ?_ _ | exact Nat.le_refl _ | refine le_ext _ ?_ | refine le_alloc _ ?_ | refine le_setCell _ _ ?_ | refine le_drew ?_) | omega | (simp; done) | (simp; omega)))))).mono ?_; rintro e w' ⟨rfl, hw'⟩; have hzy2 := ext_sz hw'; obtain ⟨y2, rfl⟩ := hw'; (try simp at hzy2)))
      go_ret2
      exact ⟨_, rfl, O1.out.below (by (repeat' (first | (with_reducible first | exact Below.refl _ _ | assumption | refine below_ext _ ?_ ?_ | refine Below.alloc ?_ ?_ _ | refine Below.drew ?_ | refine below_drewN ?_ _ | refine le_drewN _ ?_ | refine Below.setCell ?_ ?_ _ | exact Nat.le_refl _ | refine le_ext _ ?_ | refine le_alloc _ ?_ | refine le_setCell _ _ ?_ | refine le_drew ?_) | omega | (simp; done) | (simp; omega)))), ext_mk (B1.out.trans (Below.mono (show Below w1.heap.size w1 _ from (by (repeat' (first | (with_reducible first | exact Below.refl _ _ | assumption | refine below_ext _ ?_ ?_ | refine Below.alloc ?_ ?_ _ | refine Below.drew ?_ | refine below_drewN ?_ _ | refine le_drewN _ ?_ | refine Below.setCell ?_ ?_ _ | exact Nat.le_refl _ | refine le_ext _ ?_ | refine le_alloc _ ?_ | refine le_setCell _ _ ?_ | refine le_drew ?_) | omega | (simp; done) | (simp; omega))))) B1.out.size))⟩
    · rw [dS_no (fun h => he h.2)]
      rw [decide_eq_false he] at EQ
      clear hv he len
      generalize bS (encL (rdL l)) = S at *
      generalize rdL l = R at *
      go_enter Tryd.func27, Tryd.ntmps27
      go_wp2_with fail
      refine (SP.out _).mono ?_
      rintro e w1 ⟨v1, rfl, hown, hx⟩
      obtain ⟨A1, n1, c1, rfl⟩ := hown.slice
      obtain ⟨hn1, hc1, _, hs1⟩ := hown.pts
      have B1 := hide (ext_bel hx)
      have O1 := hide hown
      clear hx hown
      go_wp2_with fail
      refine (VP.out _ _ _ _ hn1 (by omega) hs1).mono ?_
      rintro e w' ⟨rfl, hw'⟩; have hzy1 := ext_sz hw'; obtain ⟨y1, rfl⟩ := hw'; (try simp at hzy1)
      go_wp2_with ((go_at_call 37; refine (FR.out _ _ _ _ hn1 (hs1.to (by (repeat' (first | (with_reducible first | exact Below.refl _ _ | assumption | refine below_ext _ ?_ ?_ | refine Below.alloc ?_ ?_ _ | refine Below.drew ?_ | refine below_drewN ?_ _ | refine le_drewN _ ?_ | refine Below.setCell ?_ ?_ _ | exact Nat.le_refl _ | refine le_ext _ ?_ | refine le_alloc _ ?_ | refine le_setCell _ _ ?_ | refine le_drew ?_) | omega | (simp; done) | (simp; omega)))))).mono ?_; rintro e w' ⟨rfl, hw'⟩; have hzy2 := ext_sz hw'; obtain ⟨y2, rfl⟩ := hw'; (try simp at hzy2)))
      go_ret2
      exact ⟨_, rfl, OwnP.nil _ _, ext_mk (B1.out.trans (Below.mono (show Below w1.heap.size w1 _ from (by (repeat' (first | (with_reducible first | exact Below.refl _ _ | assumption | refine below_ext _ ?_ ?_ | refine Below.alloc ?_ ?_ _ | refine Below.drew ?_ | refine below_drewN ?_ _ | refine le_drewN _ ?_ | refine Below.setCell ?_ ?_ _ | exact Nat.le_refl _ | refine le_ext _ ?_ | refine le_alloc _ ?_ | refine le_setCell _ _ ?_ | refine le_drew ?_) | omega | (simp; done) | (simp; omega))))) B1.out.size))⟩
  · rw [eq_false_of_ne_true hv] at VP
    rw [dS_no (fun h => hv h.1)]
    clear hv len EQ
    generalize rdL l = R at *
    go_enter Tryd.func27, Tryd.ntmps27
    go_wp2_with fail
    refine (SP.out _).mono ?_
    rintro e w1 ⟨v1, rfl, hown, hx⟩
    obtain ⟨A1, n1, c1, rfl⟩ := hown.slice
    obtain ⟨hn1, hc1, _, hs1⟩ := hown.pts
    have B1 := hide (ext_bel hx)
    have O1 := hide hown
    clear hx hown
    go_wp2_with fail
    refine (VP.out _ _ _ _ hn1 (by omega) hs1).mono ?_
    rintro e w' ⟨rfl, hw'⟩; have hzy1 := ext_sz hw'; obtain ⟨y1, rfl⟩ := hw'; (try simp at hzy1)
    go_wp2_with fail
    go_ret2
    exact ⟨_, rfl, OwnP.nil _ _, ext_mk (B1.out.trans (Below.mono (show Below w1.heap.size w1 _ from (by (repeat' (first | (with_reducible first | exact Below.refl _ _ | assumption | refine below_ext _ ?_ ?_ | refine Below.alloc ?_ ?_ _ | refine Below.drew ?_ | refine below_drewN ?_ _ | refine le_drewN _ ?_ | refine Below.setCell ?_ ?_ _ | exact Nat.le_refl _ | refine le_ext _ ?_ | refine le_alloc _ ?_ | refine le_setCell _ _ ?_ | refine le_drew ?_) | omega | (simp; done) | (simp; omega))))) B1.out.size))⟩
end Go.Proofs.YtlggmjofglmjcaaDoor
