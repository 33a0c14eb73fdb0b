
/- laws.FnSessionSimple returns true. -/
import Derived.Test.YtnddfdhfefconaaGreatDoorRun
import Derived.Test.YtnddfdhfefconaaGreatDoorCmd
import Derived.Test.YtnddfdhfefconaaGreatDoorDrawA
import Derived.Test.YtnddfdhfefconaaGreatDoorHelp
set_option linter.unusedVariables false
set_option linter.unusedSimpArgs false
namespace Go.Proofs.YtnddfdhfefconaaGreatDoor
open Go.RowKit

theorem pre_at (s : List UInt8) : Lib.hasPrefix (qPts ++ s) qPts = true ∧ Lib.trimPrefix (qPts ++ s) qPts = s := by
  have h : Lib.hasPrefix (qPts ++ s) qPts = true := by
    unfold Lib.hasPrefix
    rw [List.isPrefixOf_iff_prefix]
    exact List.prefix_append _ _
  refine ⟨h, ?_⟩
  unfold Lib.trimPrefix
  rw [if_pos h]
  simp
/-- A session that sets points and asks one question. -/
theorem run_two {G : List UInt8 → List Pt → List UInt8} {ps : List Pt} {c : List UInt8} (h : encE ps ≠ []) (hp : Lib.hasPrefix c qPts = false) (hc : (cmdFn c).isSome = true) :
    stN G [qPts ++ encE ps, c] 1 = ps ∧ ps ≠ [] ∧ listOk ps = true ∧ runL G [qPts ++ encE ps, c] = ((sOk ++ [10]) ++ G c ps) ++ [10] := by
  obtain ⟨p1, p2⟩ := pre_at (encE ps)
  have d := dec_enc h
  have h0 : ps ≠ [] := fun e => h (by rw [e]; rfl)
  have hok : listOk ps = true := by
    refine Decidable.byContradiction fun hn => h ?_
    unfold encE; rw [if_neg hn]
  have s1 : stepL G (qPts ++ encE ps) [] = (sOk, ps) := by
    unfold stepL
    rw [if_pos p1, p2, d]; rfl
  have e1 : stN G [qPts ++ encE ps, c] 1 = ps := by
    show (stepL G (qPts ++ encE ps) []).2 = ps
    rw [s1]
  have s2 : stepL G c ps = (G c ps, ps) := by
    unfold stepL
    rw [if_neg (by rw [hp]; simp), if_pos ⟨hc, h0⟩]
  refine ⟨e1, h0, hok, ?_⟩
  show ((ouN G [qPts ++ encE ps, c] 1) ++ (stepL G c (stN G [qPts ++ encE ps, c] 1)).1) ++ [10] = _
  rw [e1, s2]
  show ((([] ++ (stepL G (qPts ++ encE ps) []).1) ++ [10]) ++ G c ps) ++ [10] = _
  rw [s1]; rfl
theorem strs_two (W : World) (a b : List UInt8) : StrsAt (W.alloc (.cells #[.string (bS a), .string (bS b)] 9)) (W.alloc (.cells #[.string (bS a), .string (bS b)] 9)).heap.size (some ⟨W.heap.size, 0, none⟩) [a, b] := fun _ =>
  ⟨W.heap.size, 0, rfl, by simp, fun i hi => by
    have hi : i < 2 := hi
    match i, hi with
    | 0, _ => exact (heap_cell (heap_alloc_new W _) 0).trans rfl
    | 1, _ => exact (heap_cell (heap_alloc_new W _) 1).trans rfl⟩
def noA : List Pt → List UInt8 := fun _ => []
theorem noA_short : ∀ ps, ps ≠ [] → listOk ps = true → (noA ps).length ≤ 100000 := fun _ _ _ => by simp [noA]
def G0 : List UInt8 → List Pt → List UInt8 := ansL noA noA noA noA
theorem G0_short : Short G0 := fun l ps h0 h => ansL_short noA_short noA_short noA_short noA_short l ps h0 h
theorem G0_simple (ps : List Pt) : G0 qSimple ps = if simB ps = true then sYes else sNo := by
  unfold G0 ansL
  rw [if_neg (by decide), if_neg (by decide), if_neg (by decide), if_pos rfl]
theorem G0_hull (ps : List Pt) : G0 qHull ps = encE (hullL ps) := by
  unfold G0 ansL
  rw [if_pos rfl]
theorem G0_area (ps : List Pt) : G0 qArea ps = Lib.itoa (hullArea ps) := by
  unfold G0 ansL
  rw [if_neg (by decide), if_pos rfl]
/-- The program's session of two lines. -/
theorem iTwo_any {ps : List Pt} {c : List UInt8} (h : encE ps ≠ []) (hp : Lib.hasPrefix c qPts = false) (hc : (cmdFn c).isSome = true) (hcl : c.length ≤ 100) (A : Option Addr) (w : World) (hs : StrsAt w w.heap.size A [qPts ++ encE ps, c]) (ht : Tab w) (hE : Errs w) (hM : MaxL w)
    (hC : CmdI G0 c ps w) : Calls Tryz.prog 11 #[.slice A 2 2] w fun e w' => e = .returned (.string (bS (((sOk ++ [10]) ++ G0 c ps) ++ [10]))) ∧ Below w.heap.size w w' := by
  obtain ⟨e1, h0, hok, er⟩ := run_two (G := G0) h hp hc
  rw [← er]
  have hl := encE_len2 ps
  refine iRun_any G0 G0_short [qPts ++ encE ps, c] A 2 2 w rfl (Nat.le_refl _) (by omega) (fun l hl' => ?_) hs ht hE hM (fun k hk => ?_)
  · rcases List.mem_cons.1 hl' with e | e
    · subst e
      rw [List.length_append]
      have : qPts.length = 7 := rfl
      omega
    · rw [List.mem_singleton.1 e]; omega
  · have hk : k < 2 := by omega
    match k, hk with
    | 0, _ => exact fun hne => absurd rfl hne
    | 1, _ =>
      rw [e1]
      exact hC
set_option maxRecDepth 20000 in
set_option maxHeartbeats 4000000 in
theorem lawSesS (n c : Nat) (A : Option Addr) (w : World) (hn : n ≤ c) (hc : c ≤ 9223372036854775807) (hA : BytesAt w w.heap.size A n) (ht : Tab w) (hE : Errs w) (hM : MaxL w) :
    Calls Tryz.prog 6 #[.slice A n c] w fun e w' => e = .returned (.bool true) ∧ Below w.heap.size w w' := by
  by_cases hl : n ≤ 1048576
  · go_enter Tryz.func6, Tryz.ntmps6
    go_wp2_with fail
    refine (drawIsS_any n c A _ hn hc hA).mono ?_
    rintro e w1 ⟨v1, ps, rfl, hown, hlen, _, B1⟩
    obtain ⟨A1, n1, c1, rfl⟩ := hown.slice
    obtain ⟨l1, _, _, p1⟩ := hown.pts
    have SE := hide (fun (W : World) (hb : Below w1.heap.size w1 W) => sEncL_any ps A1 n1 c1 W l1 (by omega) (p1.to hb))
    have IE := hide (fun (W : World) (hb : Below w1.heap.size w1 W) => iEncL_any ps A1 n1 c1 W l1 (by omega) (p1.to hb) (ht.to (B1.trans (hb.mono B1.size))))
    have IS := hide (fun (W : World) (hb : Below w1.heap.size w1 W) => iSim4_any ps A1 n1 c1 W l1 (by omega) hown.form.1 (p1.to hb))
    have hln := encE_len2 ps
    have ES : ((bS (encE ps)).toList == (bS (encE ps)).toList) = true := by rw [bS_ne]; simp
    have NS : ((bS (encE ps)).toList != (bS (encE ps)).toList) = false := by rw [bne, ES]; rfl
    by_cases hv : encE ps = []
    · have e1 : (⟨#[]⟩ : ByteArray).toList.isEmpty = true := by rw [ByteArray.toList_eq]; rfl
      rw [hv, bS_nil] at IE SE
      clear hv ES NS hln IS hE hM hA hown
      go_wp2_with fail
      refine (IE.out _ (Below.refl _ _)).mono ?_
      rintro e w2 ⟨rfl, hx⟩
      have F2 := ext_bel hx
      clear hx
      go_wp2_with fail
      refine (SE.out _ F2).mono ?_
      rintro e w3 ⟨rfl, hx⟩
      have F3 := F2.trans ((ext_bel hx).mono F2.size)
      clear hx
      go_wp2_with fail
      refine (SE.out _ F3).mono ?_
      rintro e w4 ⟨rfl, hx⟩
      have F4 := F3.trans ((ext_bel hx).mono F3.size)
      clear hx
      go_wp2_with fail
      go_ret
      exact ⟨rfl, B1.trans (F4.mono B1.size)⟩
    · have e0 : (bS (encE ps)).toList.isEmpty = false := by
        rw [ByteArray.toList_eq, bS_list]
        cases h : encE ps with
        | nil => exact absurd h hv
        | cons a r => rfl
      have hok : listOk ps = true := (run_two (G := G0) (c := qSimple) hv (by decide) (by decide)).2.2.1
      have RS := hide (fun (W : World) (hb : Below w1.heap.size w1 W) => have k := B1.trans (hb.mono B1.size); iTwo_any (ps := ps) (c := qSimple) hv (by decide) (by decide) (by decide) (some ⟨W.heap.size, 0, none⟩) (W.alloc (.cells #[.string (bS (qPts ++ encE ps)), .string (bS qSimple)] 9)) (strs_two W _ _) (ht.to (k.alloc k.size _)) (hE.to (k.alloc k.size _)) (hM.to (k.alloc k.size _)) (fun h0 k' hk' A' n' c' W' _ h1 _ _ h4 h5 => by
        have e : k' = 93 := by
          have : cmdFn qSimple = some 93 := rfl
          rw [this] at hk'
          injection hk' with hk'
          exact hk'.symm
        subst e
        rw [G0_simple]
        exact q4_any ps A' n' c' W' h1 hok h4 h5))
      have E1 : (⟨#[112, 111, 105, 110, 116, 115, 32]⟩ : ByteArray) ++ bS (encE ps) = bS (qPts ++ encE ps) := bS_app qPts (encE ps)
      have K1 : ¬ 9223372036854775807 < 7 + (bS (encE ps)).size := by rw [bS_size]; omega
      have K2 : ¬ 9223372036854775807 < (⟨#[112, 111, 105, 110, 116, 115, 32]⟩ : ByteArray).size + (bS (encE ps)).size := by rw [bS_size]; show ¬ 9223372036854775807 < 7 + _; omega
      have Q1 : Hid ((⟨#[115, 105, 109, 112, 108, 101]⟩ : ByteArray) = bS qSimple) := hide rfl
      have RES : Hid ((simB ps = true → ((bS (((sOk ++ [10]) ++ G0 qSimple ps) ++ [10])).toList == [111, 107, 10, 121, 101, 115, 10]) = true) ∧ (simB ps = false → ((bS (((sOk ++ [10]) ++ G0 qSimple ps) ++ [10])).toList == [111, 107, 10, 110, 111, 10]) = true)) := hide ⟨fun hz => by
          rw [G0_simple, if_pos hz]
          rw [ByteArray.toList_eq, bS_list]
          decide, fun hz => by
          rw [G0_simple, if_neg (by rw [hz]; simp)]
          rw [ByteArray.toList_eq, bS_list]
          decide⟩
      clear hv hln ht hE hM hA hown hok
      generalize bS (((sOk ++ [10]) ++ G0 qSimple ps) ++ [10]) = R at *
      generalize bS (qPts ++ encE ps) = S1 at *
      generalize bS (encE ps) = S at *
      rw [← Q1.out] at RS
      go_wp2_with fail
      refine (IE.out _ (Below.refl _ _)).mono ?_
      rintro e w2 ⟨rfl, hx⟩
      have F2 := ext_bel hx
      clear hx
      go_wp2_with fail
      refine (SE.out _ F2).mono ?_
      rintro e w3 ⟨rfl, hx⟩
      have F3 := F2.trans ((ext_bel hx).mono F2.size)
      clear hx
      go_wp2_with fail
      refine (RS.out _ F3).mono ?_
      rintro e w4 ⟨rfl, hb4⟩
      have F4 := F3.trans ((show Below w3.heap.size w3 w4 from Below.trans ((Below.refl _ _).alloc (Nat.le_refl _) _) (hb4.mono (by simp))).mono F3.size)
      clear hb4
      go_wp2_with fail
      refine (IS.out _ F4).mono ?_
      rintro e w5 ⟨rfl, hx⟩
      have F5 := F4.trans ((ext_bel hx).mono F4.size)
      clear hx IS
      cases hz : simB ps
      · have rq := RES.out.2 hz
        clear hz RES
        go_wp2_with fail
        go_ret
        exact ⟨rfl, B1.trans (F5.mono B1.size)⟩
      · have rq := RES.out.1 hz
        clear hz RES
        go_wp2_with fail
        go_ret
        exact ⟨rfl, B1.trans (F5.mono B1.size)⟩
  · have d0 : 1048576 < n := by omega
    go_enter Tryz.func6, Tryz.ntmps6
    go_wp2_with fail
    go_ret
    exact ⟨rfl, (by (repeat' (first | (with_reducible first | exact Below.refl _ _ | assumption | refine below_ext _ ?_ ?_ | refine Below.alloc ?_ ?_ _ | refine Below.drew ?_ | refine below_drewN ?_ _ | refine le_drewN _ ?_ | refine Below.setCell ?_ ?_ _ | exact Nat.le_refl _ | refine le_ext _ ?_ | refine le_alloc _ ?_ | refine le_setCell _ _ ?_ | refine le_drew ?_) | omega | (simp; done) | (simp; omega))))⟩
end Go.Proofs.YtnddfdhfefconaaGreatDoor
