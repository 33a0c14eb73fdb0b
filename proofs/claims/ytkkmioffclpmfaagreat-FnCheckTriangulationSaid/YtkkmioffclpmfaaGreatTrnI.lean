
import Derived.Test.YtkkmioffclpmfaaGreatClip
import Derived.Test.YtkkmioffclpmfaaGreatEarS
import Derived.Test.YtkkmioffclpmfaaGreatChkTM
import Derived.BigRegion
import Derived.Outline
import Derived.Deep.RegionHeld3
import Derived.Test.YtkkmioffclpmfaaGreatApp
import Derived.Test.YtkkmioffclpmfaaGreatSlayD
import Derived.Shelf.SlicesG.Delete
import Derived.Test.YtkkmioffclpmfaaGreatCan
import Derived.Test.YtkkmioffclpmfaaGreatEar
/- Triangulate of the reference. -/
set_option linter.unusedVariables false
set_option linter.unusedSimpArgs false
namespace Go.Proofs.YtkkmioffclpmfaaGreat
open Go.RowKit

def triV (ps : List Pt) : List TI := if clipB ps = true then triI ps else []
theorem triI_len {ps : List Pt} (h : clipB ps = true) : (triI ps).length = ps.length - 2 := by
  have := (chk_parts (tri_chk h)).2.1; omega
theorem triV_len (ps : List Pt) : (triV ps).length ≤ 1000 := by
  unfold triV
  split
  · rename_i h
    have := triI_len h
    have := (simB_parts (clipB_sim h)).2.2.1
    omega
  · exact Nat.zero_le _
theorem zI_erase {rs : List Nat} {k : Nat} (hk : k < rs.length) : zI (rs.eraseIdx k) = [] ++ (zI rs).take k ++ (zI rs).drop (k + 1) := by
  rw [List.nil_append]
  unfold zI
  rw [List.eraseIdx_eq_take_drop_succ, List.map_append, List.map_take, List.map_drop]
theorem clipO_one (ps : List Pt) (k : Nat) : (clipO ps (k + 1)).map ofN = (clipO ps k).map ofN ++ [⟨bef (clipR ps k) (fEar ps (clipR ps k)), gn (clipR ps k) (fEar ps (clipR ps k)), aft (clipR ps k) (fEar ps (clipR ps k))⟩] := by
  rw [clipO_succ, List.map_append]; rfl
theorem clip_last (ps : List Pt) : triI ps = (clipO ps (ps.length - 3)).map ofN ++ [⟨gn (clipR ps (ps.length - 3)) 0, gn (clipR ps (ps.length - 3)) 1, gn (clipR ps (ps.length - 3)) 2⟩] := by
  unfold triI
  rw [← clip_end, List.map_append]; rfl
theorem IntsAt.block7 {w W : World} {B B' b o : Nat} {zs : List Int} (h : IntsAt w B (some ⟨b, o, none⟩) zs) (hb : W.heap[b]? = w.heap[b]?) (hB : b < B') : IntsAt W B' (some ⟨b, o, none⟩) zs := fun hn => by
  obtain ⟨b1, o1, hA, _, hc⟩ := h hn
  injection hA with hA; injection hA with e1 e2 _
  subst e1 e2
  exact ⟨b, o, rfl, hB, fun i hi => (World.cell?_of_block hb).trans (hc i hi)⟩
set_option maxRecDepth 20000 in
set_option maxHeartbeats 4000000 in
theorem cutEars_any (ps : List Pt) (A : Option Addr) (n c : Nat) (w : World) (hn : ps.length = n) (hok : clipB ps = true) (hs : PtsAt w w.heap.size A ps) :
    Calls Tryz.prog 50 #[.slice A n c] w fun e w' => ∃ v, e = .returned v ∧ OwnT w' w.heap.size v (triI ps) ∧ ∃ x, w' = ext w x := by
  have hsim := clipB_sim hok
  obtain ⟨hib, h3, h20, _, hnd⟩ := simB_parts hsim
  have hib3 : ∀ p ∈ ps, (-1000 ≤ p.x ∧ p.x ≤ 1000) ∧ -1000 ≤ p.y ∧ p.y ≤ 1000 := by
    have hl := simB_listOk hsim
    unfold listOk at hl
    rw [Bool.and_eq_true] at hl
    intro p hp
    obtain ⟨i, hi, rfl⟩ := gp_of_mem hp
    have := allOk_at hl.2 hi
    exact ⟨⟨this.1, this.2.1⟩, this.2.2.1, this.2.2.2⟩
  have RO := hide (fun (W : World) (hb : Below w.heap.size w W) => ringOf_any ps A n c W hn (by omega) hib3 (hs.to hb))
  have CK : Hid (∀ k, k ≤ n - 3 → RingOk ps (clipR ps k) ∧ (clipR ps k).length = n - k) := hide (fun k hk => by rw [← hn]; exact clip_ok hsim k (by omega))
  have FE : Hid (∀ k, k < n - 3 → fEar ps (clipR ps k) < n - k ∧ earB ps (clipR ps k) (fEar ps (clipR ps k)) = true ∧ ∀ j, j < fEar ps (clipR ps k) → earB ps (clipR ps k) j = false) := hide (fun k hk => by
    obtain ⟨r1, r2⟩ := CK.out k (by omega)
    obtain ⟨f1, f2, _, f4⟩ := fEar_ok r1 (by omega)
    exact ⟨by omega, f2, f4⟩)
  have EA := hide (fun (k j : Nat) (Z : Option Addr) (d : Nat) (W : World) (hb : Below w.heap.size w W) (hk : k ≤ n - 3) (hj : j < n - k) (hz : IntsAt W W.heap.size Z (zI (clipR ps k))) => isEar_any ps (clipR ps k) j A Z n c (n - k) d W hn (CK.out k hk).2 hj (by omega) (by omega) (fun i hi => by rw [← hn]; exact (CK.out k hk).1.at_lt (by rw [(CK.out k hk).2]; exact hi)) hnd hib (hs.to hb) hz)
  have ZL : Hid (∀ k, k ≤ n - 3 → (zI (clipR ps k)).length = n - k) := hide (fun k hk => by rw [zI_len, (CK.out k hk).2])
  have R0 : Hid (zI (clipR ps 0) = rgL ps) := hide (zI_rgN ps)
  have NXR : Hid (∀ k, k < n - 3 → zI (clipR ps (k + 1)) = [] ++ (zI (clipR ps k)).take (fEar ps (clipR ps k)) ++ (zI (clipR ps k)).drop (fEar ps (clipR ps k) + 1)) := hide (fun k hk => zI_erase (by rw [(CK.out k (by omega)).2]; exact (FE.out k hk).1))
  have NXO := hide (clipO_one ps)
  have OL : Hid (∀ k, ((clipO ps k).map ofN).length = k) := hide (fun k => by rw [List.length_map, clipO_len])
  have LAST : Hid (triI ps = (clipO ps (n - 3)).map ofN ++ [⟨gn (clipR ps (n - 3)) 0, gn (clipR ps (n - 3)) 1, gn (clipR ps (n - 3)) 2⟩]) := hide (by rw [← hn]; exact clip_last ps)
  have BA : Hid (∀ k i, k ≤ n - 3 → bef (clipR ps k) i = gn (clipR ps k) ((i + (n - k) - 1) % (n - k)) ∧ aft (clipR ps k) i = gn (clipR ps k) ((i + 1) % (n - k))) := hide (fun k i hk => by unfold bef aft; rw [(CK.out k hk).2]; exact ⟨rfl, rfl⟩)
  have k20 : n ≤ 20 := by omega
  have k3 : 3 ≤ n := by omega
  clear hn hok hs hsim hib h3 h20 hnd hib3
  go_enter Tryz.func50, Tryz.ntmps50
  go_wp2_with fail
  refine (RO.out _ (Below.refl _ _)).mono ?_
  rintro e w2 ⟨v2, rfl, own2, hx2⟩
  obtain ⟨A2, n2, c2, rfl⟩ := own_slice own2
  rw [← R0.out] at own2
  have B2 := hide (ext_bel hx2)
  have s2 := B2.out.size
  have O2 := hide own2
  have LT2 := hide own2.lt2
  clear own2 hx2 R0 RO
  go_wp2_with fail
  go_loopw [3, 4, 5, 6] (fun u3 u4 _ _ wr => ∃ k : Nat, k ≤ n - 3 ∧ Own wr w.heap.size u3 (zI (clipR ps k)) ∧ OwnT wr w.heap.size u4 ((clipO ps k).map ofN) ∧ Hid (∀ b, u3.ownBlock = some b → u4.ownBlock ≠ some b) ∧ Below w.heap.size w wr) (fun u3 _ _ _ _ => match u3 with | .slice _ l _ => l | _ => 0)
  case atStart =>
    refine ⟨0, Nat.zero_le _, O2.out.below (by (repeat' (first | (with_reducible first | exact Below.refl _ _ | assumption | refine below_ext _ ?_ ?_ | refine Below.alloc ?_ ?_ _ | refine Below.drew ?_ | refine below_drewN ?_ _ | refine le_drewN _ ?_ | refine Below.setCell ?_ ?_ _ | exact Nat.le_refl _ | refine le_ext _ ?_ | refine le_alloc _ ?_ | refine le_setCell _ _ ?_ | refine le_drew ?_) | omega | (simp; done) | (simp; omega)))), (OwnT.empty w2 _ s2), hide (fun b hb hh => ?_), B2.out.trans (Below.mono (by (repeat' (first | (with_reducible first | exact Below.refl _ _ | assumption | refine below_ext _ ?_ ?_ | refine Below.alloc ?_ ?_ _ | refine Below.drew ?_ | refine below_drewN ?_ _ | refine le_drewN _ ?_ | refine Below.setCell ?_ ?_ _ | exact Nat.le_refl _ | refine le_ext _ ?_ | refine le_alloc _ ?_ | refine le_setCell _ _ ?_ | refine le_drew ?_) | omega | (simp; done) | (simp; omega)))) s2)⟩
    have h1 := LT2.out b hb
    injection hh with hh
    have hh : w2.heap.size = b := hh
    omega
  case round =>
    obtain ⟨k, hk, hown, hownT, DJ, hbel⟩ := hrel
    obtain ⟨A3, n3, c3, rfl⟩ := own_slice hown
    obtain ⟨A4, n4, c4, rfl⟩ := hownT.slice
    have l3 := hown.ints
    have e3 : n - k = n3 := by rw [← l3.1]; exact (ZL.out k hk).symm
    have I3 := hide l3.2.2.2
    have c3n := l3.2.1
    have c3m := l3.2.2.1
    unfold maxLen at c3m
    have OWT := hide hownT
    have LT4 := hide hownT.lt2
    have hsz := hbel.size
    obtain ⟨b3, rfl, hb3, lb3, hf3, hc3⟩ := hown.head (by omega)
    have CEL : Hid (∀ i, i < n3 → wr.cell? ⟨b3, i, none⟩ = some (.int .i64 (gn (clipR ps k) i))) := hide (fun i hi => by rw [← gi_zI]; exact hc3 i hi)
    have NB3 : Hid ((Value.slice A4 n4 c4).ownBlock ≠ some b3) := hide (DJ.out b3 rfl)
    obtain ⟨W0, hW0⟩ : ∃ W0, W0 = wr := ⟨_, rfl⟩
    subst hW0
    clear hown hownT l3 hf3 hc3 DJ
    by_cases hlt : k < n - 3
    · obtain ⟨f1, f2, f3⟩ := FE.out k hlt
      have F3 := hide f3
      have d1 : decide ((3 : Int) < (n3 : Int)) = true := decide_eq_true (by omega)
      have NXR1 := hide (NXR.out k hlt)
      have NXO1 := hide (NXO.out k)
      have BA1 := hide (BA.out k (fEar ps (clipR ps k)) hk)
      have OLk := hide (OL.out k)
      have ZLk := hide (ZL.out k hk)
      have EAk := hide (fun (j : Nat) (W : World) (hb : Below W0.heap.size W0 W) (hj : j < n3) => EA.out k j (some ⟨b3, 0, none⟩) c3 W (hbel.trans (hb.mono hsz)) hk (by omega) (I3.out.to hb))
      rw [e3] at f1 BA1 ZLk EAk
      clear f3 EA NXR NXO BA OL ZL LAST CK FE
      generalize hfe : fEar ps (clipR ps k) = fe at *
      have HFE := hide hfe
      clear hfe
      generalize hrs : clipR ps k = rs at *
      generalize hZ : zI rs = Z at *
      clear hZ
      go_wp2_with fail
      go_loopw [6] (fun u6 wr => ∃ j : Nat, j ≤ fe ∧ u6 = .int .i64 j ∧ Below W0.heap.size W0 wr) (fun u6 _ => fe - (intOf u6).toNat)
      case atStart => exact ⟨0, Nat.zero_le _, rfl, Below.refl _ _⟩
      case round =>
        obtain ⟨j, hj, rfl, hbel2⟩ := hrel
        have hsz2 := hbel2.size
        have dj : decide ((j : Int) < (n3 : Int)) = true := decide_eq_true (by omega)
        have EAj := hide (fun (W : World) (hb : Below W0.heap.size W0 W) => EAk.out j W hb (by omega))
        by_cases hjf : j < fe
        · rw [F3.out j hjf] at EAj
          go_wp2_with fail
          refine (EAj.out _ hbel2).mono ?_
          rintro e w' ⟨rfl, hw'⟩; have hzy1 := ext_sz hw'; obtain ⟨y1, rfl⟩ := hw'; (try simp at hzy1)
          go_wp2_with fail
          exact ⟨⟨j + 1, by omega, by go_num, hbel2.trans (by (repeat' (first | (with_reducible first | exact Below.refl _ _ | assumption | refine below_ext _ ?_ ?_ | refine Below.alloc ?_ ?_ _ | refine Below.drew ?_ | refine below_drewN ?_ _ | refine le_drewN _ ?_ | refine Below.setCell ?_ ?_ _ | exact Nat.le_refl _ | refine le_ext _ ?_ | refine le_alloc _ ?_ | refine le_setCell _ _ ?_ | refine le_drew ?_) | omega | (simp; done) | (simp; omega))))⟩, by simp [intOf]; omega⟩
        · have ej : j = fe := by omega
          subst ej
          rw [f2] at EAj
          have dj2 : ((j : Int) == (n3 : Int)) = false := by rw [beq_eq_false_iff_ne]; omega
          obtain ⟨j1, hj1⟩ : ∃ i, i = (j + n3 - 1) % n3 := ⟨_, rfl⟩
          obtain ⟨j2, hj2⟩ : ∃ i, i = (j + 1) % n3 := ⟨_, rfl⟩
          have hl1 : j1 < n3 := by rw [hj1]; exact Nat.mod_lt _ (by omega)
          have hl2 : j2 < n3 := by rw [hj2]; exact Nat.mod_lt _ (by omega)
          have e1 : Int.tmod ((j : Int) + (n3 : Int) - 1) (n3 : Int) = (j1 : Int) := by
            rw [hj1, show ((j : Int) + (n3 : Int) - 1) = ((j + n3 - 1 : Nat) : Int) by omega]
            exact (Int.ofNat_tmod (j + n3 - 1) n3).symm
          have e2 : Int.tmod ((j : Int) + 1) (n3 : Int) = (j2 : Int) := by rw [hj2]; exact (Int.ofNat_tmod (j + 1) n3).symm
          have NX2 : Hid ((clipO ps (k + 1)).map ofN = (clipO ps k).map ofN ++ [⟨gn rs j1, gn rs j, gn rs j2⟩]) := hide (by rw [NXO1.out, BA1.out.1, BA1.out.2, hj1, hj2])
          go_wp2_with fail
          refine (EAj.out _ hbel2).mono ?_
          rintro e w' ⟨rfl, hw'⟩; have hzy1 := ext_sz hw'; obtain ⟨y1, rfl⟩ := hw'; (try simp at hzy1)
          have BW : Below W0.heap.size W0 (ext wr y1) := hbel2.trans (by (repeat' (first | (with_reducible first | exact Below.refl _ _ | assumption | refine below_ext _ ?_ ?_ | refine Below.alloc ?_ ?_ _ | refine Below.drew ?_ | refine below_drewN ?_ _ | refine le_drewN _ ?_ | refine Below.setCell ?_ ?_ _ | exact Nat.le_refl _ | refine le_ext _ ?_ | refine le_alloc _ ?_ | refine le_setCell _ _ ?_ | refine le_drew ?_) | omega | (simp; done) | (simp; omega))))
          generalize ext wr y1 = W1 at *
          have BWh := hide BW
          have sW := BW.size
          have z1 := (BW.cell (p := ⟨b3, j1, none⟩) lb3).trans (CEL.out j1 hl1)
          have z2 := (BW.cell (p := ⟨b3, j, none⟩) lb3).trans (CEL.out j f1)
          have z3 := (BW.cell (p := ⟨b3, j2, none⟩) lb3).trans (CEL.out j2 hl2)
          have bl : b3 < W1.heap.size := by omega
          have w1 : IntKind.i64.wrap ((j : Int) + (n3 : Int)) = (j : Int) + (n3 : Int) := IntWalk.i64_in _ (by omega)
          have w2' : IntKind.i64.wrap ((j : Int) + (n3 : Int) - 1) = (j : Int) + (n3 : Int) - 1 := IntWalk.i64_in _ (by omega)
          have w3 : IntKind.i64.wrap (j1 : Int) = (j1 : Int) := IntWalk.i64_in _ (by omega)
          have w4 : IntKind.i64.wrap (j2 : Int) = (j2 : Int) := IntWalk.i64_in _ (by omega)
          have w5 : IntKind.i64.wrap ((j : Int) + 1) = (j : Int) + 1 := IntWalk.i64_in _ (by omega)
          have q1 : (0 : Int) ≤ (j1 : Int) := by omega
          have q2 : (j1 : Int) < (n3 : Int) := by omega
          have q3 : (0 : Int) ≤ (j : Int) := by omega
          have q4 : (j : Int) < (n3 : Int) := by omega
          have q5 : (0 : Int) ≤ (j2 : Int) := by omega
          have q6 : (j2 : Int) < (n3 : Int) := by omega
          have q7 : ¬ n3 = 0 := by omega
          clear hj1 hj2 NXO1 BA1 EAj EAk
          generalize gn rs j1 = ga at *
          generalize gn rs j = gb at *
          generalize gn rs j2 = gc at *
          have OD : Hid (∀ o, OwnT ((W1.alloc o).drew) w.heap.size (.slice A4 n4 c4) ((clipO ps k).map ofN)) := hide (fun o => OWT.out.below (BWh.out.trans (Below.mono (show Below W1.heap.size W1 ((W1.alloc o).drew) from (by (repeat' (first | (with_reducible first | exact Below.refl _ _ | assumption | refine below_ext _ ?_ ?_ | refine Below.alloc ?_ ?_ _ | refine Below.drew ?_ | refine below_drewN ?_ _ | refine le_drewN _ ?_ | refine Below.setCell ?_ ?_ _ | exact Nat.le_refl _ | refine le_ext _ ?_ | refine le_alloc _ ?_ | refine le_setCell _ _ ?_ | refine le_drew ?_) | omega | (simp; done) | (simp; omega))))) sW)))
          have SZ : Hid (∀ o : Obj, w.heap.size ≤ ((W1.alloc o).drew).heap.size) := hide (fun o => (by first | (simp; done) | (simp; omega)))
          have NC : Hid (∀ o : Obj, ((W1.alloc o).drew).heap[W1.heap.size]? = some o) := hide (fun o => heap_alloc_new W1 o)
          have NL : ((clipO ps k).map ofN).length ≤ 2000000 := by rw [OLk.out]; omega
          have SC : Hid (∀ W : World, W.heap[b3]? = W1.heap[b3]? → W.cell? ⟨b3, j1, none⟩ = some (.int .i64 ga) ∧ W.cell? ⟨b3, j, none⟩ = some (.int .i64 gb) ∧ W.cell? ⟨b3, j2, none⟩ = some (.int .i64 gc)) := hide (fun W h => ⟨(World.cell?_of_block h).trans z1, (World.cell?_of_block h).trans z2, (World.cell?_of_block h).trans z3⟩)
          clear z1 z2 z3
          go_wp2_with fail
          go_region_held3 (fun W => W.cell? ⟨b3, j1, none⟩ = some (.int .i64 ga) ∧ W.cell? ⟨b3, j, none⟩ = some (.int .i64 gb) ∧ W.cell? ⟨b3, j2, none⟩ = some (.int .i64 gc)) (first | exact SC.out _ rfl | exact SC.out _ (Below.heap_alloc _ _ _ bl) | exact SC.out _ ((GR7.out.block _ (lt_alloc _ (Nat.lt_succ_of_lt bl)) (fun e => NB3.out e.symm)).trans (Below.heap_alloc _ _ _ bl))) (first | (refine step_tri (by rfl) (.tmp 31) (.tmp 53) (by rfl) w.heap.size (.slice A4 n4 c4) ((clipO ps k).map ofN) (by rfl) (OD.out _) ga gb gc W1.heap.size 1 (by rfl) ((heap_cell (NC.out _) 0).trans rfl) ((heap_cell (NC.out _) 1).trans rfl) ((heap_cell (NC.out _) 2).trans rfl) NL (SZ.out _) ?_; intro v7 w7 hown7 hb7 hat7 hgr7; obtain ⟨A7, n7, c7, rfl⟩ := hown7.slice; have O7 := hide hown7; have B7 := hide hb7; have GR7 := hide hgr7; clear hown7 hat7 hgr7 hb7))
          have BK7 : Hid (w7.heap[b3]? = W0.heap[b3]?) := hide ((GR7.out.block _ (lt_alloc _ (Nat.lt_succ_of_lt bl)) (fun e => NB3.out e.symm)).trans ((Below.heap_alloc W1 _ _ bl).trans (BWh.out.block _ lb3)))
          have s7 : W1.heap.size + 1 ≤ w7.heap.size := by have := GR7.out.size; simpa using this
          have I7 := I3.out.block7 BK7.out (show b3 < w7.heap.size by omega)
          have k1 := I7.cut (a := 0) (m := j) (by rw [ZLk.out]; omega)
          have k2 := I7.cut (a := j + 1) (m := n3 - (j + 1)) (by rw [ZLk.out]; omega)
          rw [Nat.zero_add] at k1 k2
          rw [List.drop_zero] at k1
          rw [List.take_of_length_le (show (Z.drop (j + 1)).length ≤ n3 - (j + 1) by rw [List.length_drop, ZLk.out]; omega)] at k2
          have LEN := hide (And.intro (show (Z.take j).length = j by rw [List.length_take, ZLk.out]; omega) (show (Z.drop (j + 1)).length = n3 - (j + 1) by rw [List.length_drop, ZLk.out]))
          have NB7 : Hid (Below w.heap.size w w7) := hide ((hbel.trans (BWh.out.mono hsz)).trans ((show Below w.heap.size W1 _ from (by (repeat' (first | (with_reducible first | exact Below.refl _ _ | assumption | refine below_ext _ ?_ ?_ | refine Below.alloc ?_ ?_ _ | refine Below.drew ?_ | refine below_drewN ?_ _ | refine le_drewN _ ?_ | refine Below.setCell ?_ ?_ _ | exact Nat.le_refl _ | refine le_ext _ ?_ | refine le_alloc _ ?_ | refine le_setCell _ _ ?_ | refine le_drew ?_) | omega | (simp; done) | (simp; omega))))).trans B7.out))
          have OB7 : Hid (∀ b, (Value.slice A7 n7 c7).ownBlock = some b → b < w7.heap.size) := hide O7.out.lt2
          generalize hL1 : Z.take j = L1 at *
          generalize hL2 : Z.drop (j + 1) = L2 at *
          have k1D : Hid (∀ o : Obj, IntsAt (w7.drew.alloc o) w7.heap.size (some ⟨b3, 0, none⟩) L1) := hide (fun o => k1.below (by (repeat' (first | (with_reducible first | exact Below.refl _ _ | assumption | refine below_ext _ ?_ ?_ | refine Below.alloc ?_ ?_ _ | refine Below.drew ?_ | refine below_drewN ?_ _ | refine le_drewN _ ?_ | refine Below.setCell ?_ ?_ _ | exact Nat.le_refl _ | refine le_ext _ ?_ | refine le_alloc _ ?_ | refine le_setCell _ _ ?_ | refine le_drew ?_) | omega | (simp; done) | (simp; omega)))))
          have k2D : Hid (∀ (o : Obj) (W : World), Below w7.heap.size (w7.drew.alloc o) W → IntsAt W w7.heap.size (some ⟨b3, j + 1, none⟩) L2) := hide (fun o W hb => k2.below (Below.trans (by (repeat' (first | (with_reducible first | exact Below.refl _ _ | assumption | refine below_ext _ ?_ ?_ | refine Below.alloc ?_ ?_ _ | refine Below.drew ?_ | refine below_drewN ?_ _ | refine le_drewN _ ?_ | refine Below.setCell ?_ ?_ _ | exact Nat.le_refl _ | refine le_ext _ ?_ | refine le_alloc _ ?_ | refine le_setCell _ _ ?_ | refine le_drew ?_) | omega | (simp; done) | (simp; omega)))) hb))
          have FF : Hid (∀ (q m : Nat), (some (⟨b3, q, none⟩ : Addr) = none → m = 0) ∧ ∀ b o s, some (⟨b3, q, none⟩ : Addr) = some ⟨b, o, s⟩ → s = none) := hide (fun q m => ⟨(fun h => by cases h), (fun b o s h => by injection h with h; injection h with _ _ h; exact h.symm)⟩)
          have N1 : j ≤ 2000000 := by omega
          have N2 : n3 - (j + 1) ≤ 2000000 := by omega
          have N3 : Hid (([] ++ L1 : List Int).length ≤ 2000000) := hide (by rw [List.nil_append]; have := LEN.out.1; omega)
          have N4 : Hid (∀ o : Obj, w7.heap.size ≤ (w7.drew.alloc o).heap.size) := hide (fun o => (by first | (simp; done) | (simp; omega)))
          have LB : Hid (([] ++ L1 ++ L2).length = n3 - 1) := hide (by rw [List.nil_append, List.length_append, LEN.out.1, LEN.out.2]; omega)
          clear hL1 hL2 k1 k2 I7 SC OD SZ NC HFE
          have r1 : (j : Int) ≤ (c3 : Int) := by omega
          have r2 : (j : Int) ≤ (n3 : Int) := by omega
          have r3 : (j : Int) + 1 ≤ (n3 : Int) := by omega
          have r4 : (n3 : Int) ≤ (c3 : Int) := by omega
          have r5 : (0 : Int) ≤ (j : Int) + 1 := by omega
          have r6 : ((j : Int) + 1).toNat = j + 1 := by omega
          have r7 : (j : Int) + 1 ≤ (c3 : Int) := by omega
          by_cases hcap : c3 = j + 1
          · have hl0 : L2 = [] := List.length_eq_zero_iff.1 (by have := LEN.out.2; omega)
            have k2E : Hid (∀ W : World, IntsAt W w7.heap.size (some ⟨b3, 0, none⟩) L2) := hide (fun W hn => by rw [hl0] at hn; exact absurd hn (Nat.lt_irrefl 0))
            clear hl0
            have hcap2 : (c3 = j + 1) = True := eq_true hcap
            clear hcap
            go_wp2_with fail
            go_region_held3 (fun W => True) (exact trivial) (first | (refine step_ints (by rfl) (.tmp 55) (.tmp 58) (by rfl) w7.heap.size (.slice (some ⟨w7.heap.size, 0, none⟩) 0 0) [] (by rfl) (Own.empty _ _ (Nat.le_refl _)) (some ⟨b3, 0, none⟩) j c3 w7.heap.size L1 (by rfl) LEN.out.1 (k1D.out _) (FF.out _ _) (Nat.zero_le _) N1 (N4.out _) ?_; intro v8 w8 hown8 hb8 hat8 hgr8; obtain ⟨A8, n8, c8, rfl⟩ := own_slice hown8; have N5 := hb8.size; have O8 := hide hown8; have B8 := hide hb8; clear hown8 hat8 hgr8 hb8) | (refine step_ints (by rfl) (.tmp 59) (.tmp 63) (by rfl) w7.heap.size (.slice A8 n8 c8) ([] ++ L1) (by rfl) O8.out (some ⟨b3, 0, none⟩) (n3 - (j + 1)) (c3 - (j + 1)) w7.heap.size L2 (by rfl) LEN.out.2 (k2E.out _) (FF.out _ _) N3.out N2 (Nat.le_trans (N4.out _) N5) ?_; intro v9 w9 hown9 hb9 hat9 hgr9; obtain ⟨A9, n9, c9, rfl⟩ := own_slice hown9; have O9 := hide hown9; have B9 := hide (Below.trans (Below.trans (show Below w7.heap.size w7 (w7.drew.alloc _) from (by (repeat' (first | (with_reducible first | exact Below.refl _ _ | assumption | refine below_ext _ ?_ ?_ | refine Below.alloc ?_ ?_ _ | refine Below.drew ?_ | refine below_drewN ?_ _ | refine le_drewN _ ?_ | refine Below.setCell ?_ ?_ _ | exact Nat.le_refl _ | refine le_ext _ ?_ | refine le_alloc _ ?_ | refine le_setCell _ _ ?_ | refine le_drew ?_) | omega | (simp; done) | (simp; omega))))) B8.out) hb9); clear hown9 hat9 hgr9 hb9))
            all_goals
              go_wp2_with fail
              refine ⟨⟨k + 1, by omega, by rw [NXR1.out]; exact O9.out.base NB7.out.size, by rw [NX2.out]; exact O7.out.below B9.out, hide (fun b hb hh => ?_), NB7.out.trans (B9.out.mono NB7.out.size)⟩, ?_⟩
              · have h1 := O9.out.lt b hb
                have h2 := OB7.out b hh
                omega
              · have h1 := O9.out.ints.1
                rw [LB.out] at h1
                show n9 < n3
                omega
          · go_wp2_with fail
            go_region_held3 (fun W => True) (exact trivial) (first | (refine step_ints (by rfl) (.tmp 55) (.tmp 58) (by rfl) w7.heap.size (.slice (some ⟨w7.heap.size, 0, none⟩) 0 0) [] (by rfl) (Own.empty _ _ (Nat.le_refl _)) (some ⟨b3, 0, none⟩) j c3 w7.heap.size L1 (by rfl) LEN.out.1 (k1D.out _) (FF.out _ _) (Nat.zero_le _) N1 (N4.out _) ?_; intro v8 w8 hown8 hb8 hat8 hgr8; obtain ⟨A8, n8, c8, rfl⟩ := own_slice hown8; have k28 := hide (k2D.out _ _ hb8); have N5 := hb8.size; have O8 := hide hown8; have B8 := hide hb8; clear hown8 hat8 hgr8 hb8) | (refine step_ints (by rfl) (.tmp 59) (.tmp 63) (by rfl) w7.heap.size (.slice A8 n8 c8) ([] ++ L1) (by rfl) O8.out (some ⟨b3, j + 1, none⟩) (n3 - (j + 1)) (c3 - (j + 1)) w7.heap.size L2 (by rfl) LEN.out.2 k28.out (FF.out _ _) N3.out N2 (Nat.le_trans (N4.out _) N5) ?_; intro v9 w9 hown9 hb9 hat9 hgr9; obtain ⟨A9, n9, c9, rfl⟩ := own_slice hown9; have O9 := hide hown9; have B9 := hide (Below.trans (Below.trans (show Below w7.heap.size w7 (w7.drew.alloc _) from (by (repeat' (first | (with_reducible first | exact Below.refl _ _ | assumption | refine below_ext _ ?_ ?_ | refine Below.alloc ?_ ?_ _ | refine Below.drew ?_ | refine below_drewN ?_ _ | refine le_drewN _ ?_ | refine Below.setCell ?_ ?_ _ | exact Nat.le_refl _ | refine le_ext _ ?_ | refine le_alloc _ ?_ | refine le_setCell _ _ ?_ | refine le_drew ?_) | omega | (simp; done) | (simp; omega))))) B8.out) hb9); clear hown9 hat9 hgr9 hb9))
            all_goals
              go_wp2_with fail
              refine ⟨⟨k + 1, by omega, by rw [NXR1.out]; exact O9.out.base NB7.out.size, by rw [NX2.out]; exact O7.out.below B9.out, hide (fun b hb hh => ?_), NB7.out.trans (B9.out.mono NB7.out.size)⟩, ?_⟩
              · have h1 := O9.out.lt b hb
                have h2 := OB7.out b hh
                omega
              · have h1 := O9.out.ints.1
                rw [LB.out] at h1
                show n9 < n3
                omega
    · have ek : k = n - 3 := by omega
      subst ek
      have en : n3 = 3 := by omega
      have d1 : decide ((3 : Int) < (n3 : Int)) = false := decide_eq_false (by omega)
      have z0 := CEL.out 0 (by omega)
      have z1 := CEL.out 1 (by omega)
      have z2 := CEL.out 2 (by omega)
      have LA := hide LAST.out
      have OLk := hide (OL.out (n - 3))
      clear EA NXR NXO BA OL ZL LAST CK FE CEL
      generalize gn (clipR ps (n - 3)) 0 = ga at *
      generalize gn (clipR ps (n - 3)) 1 = gb at *
      generalize gn (clipR ps (n - 3)) 2 = gc at *
      clear e3
      subst en
      have OD : Hid (∀ o, OwnT ((W0.alloc o).drew) w.heap.size (.slice A4 n4 c4) ((clipO ps (n - 3)).map ofN)) := hide (fun o => OWT.out.below (show Below W0.heap.size W0 ((W0.alloc o).drew) from (by (repeat' (first | (with_reducible first | exact Below.refl _ _ | assumption | refine below_ext _ ?_ ?_ | refine Below.alloc ?_ ?_ _ | refine Below.drew ?_ | refine below_drewN ?_ _ | refine le_drewN _ ?_ | refine Below.setCell ?_ ?_ _ | exact Nat.le_refl _ | refine le_ext _ ?_ | refine le_alloc _ ?_ | refine le_setCell _ _ ?_ | refine le_drew ?_) | omega | (simp; done) | (simp; omega))))))
      have SZ : Hid (∀ o : Obj, w.heap.size ≤ ((W0.alloc o).drew).heap.size) := hide (fun o => (by first | (simp; done) | (simp; omega)))
      have NC : Hid (∀ o : Obj, ((W0.alloc o).drew).heap[W0.heap.size]? = some o) := hide (fun o => heap_alloc_new W0 o)
      have NL : ((clipO ps (n - 3)).map ofN).length ≤ 2000000 := by rw [OLk.out]; omega
      have SC : Hid (∀ W : World, W.heap[b3]? = W0.heap[b3]? → W.cell? ⟨b3, 0, none⟩ = some (.int .i64 ga) ∧ W.cell? ⟨b3, 1, none⟩ = some (.int .i64 gb) ∧ W.cell? ⟨b3, 2, none⟩ = some (.int .i64 gc)) := hide (fun W h => ⟨(World.cell?_of_block h).trans z0, (World.cell?_of_block h).trans z1, (World.cell?_of_block h).trans z2⟩)
      clear z0 z1 z2
      go_wp2_with fail
      go_region_held3 (fun W => W.cell? ⟨b3, 0, none⟩ = some (.int .i64 ga) ∧ W.cell? ⟨b3, 1, none⟩ = some (.int .i64 gb) ∧ W.cell? ⟨b3, 2, none⟩ = some (.int .i64 gc)) (first | exact SC.out _ rfl | exact SC.out _ (Below.heap_alloc _ _ _ lb3) | exact SC.out _ ((GR7.out.block _ (lt_alloc _ (Nat.lt_succ_of_lt lb3)) (fun e => NB3.out e.symm)).trans (Below.heap_alloc _ _ _ lb3))) (first | (refine step_tri (by rfl) (.tmp 65) (.tmp 76) (by rfl) w.heap.size (.slice A4 n4 c4) ((clipO ps (n - 3)).map ofN) (by rfl) (OD.out _) ga gb gc W0.heap.size 1 (by rfl) ((heap_cell (NC.out _) 0).trans rfl) ((heap_cell (NC.out _) 1).trans rfl) ((heap_cell (NC.out _) 2).trans rfl) NL (SZ.out _) ?_; intro v7 w7 hown7 hb7 hat7 hgr7; obtain ⟨A7, n7, c7, rfl⟩ := hown7.slice; have O7 := hide hown7; have B7 := hide hb7; have GR7 := hide hgr7; clear hown7 hat7 hgr7 hb7))
      all_goals
        go_wp2_with fail
        go_ret
        refine ⟨_, rfl, by rw [LA.out]; exact O7.out, ext_mk (hbel.trans ((show Below w.heap.size W0 _ from (by (repeat' (first | (with_reducible first | exact Below.refl _ _ | assumption | refine below_ext _ ?_ ?_ | refine Below.alloc ?_ ?_ _ | refine Below.drew ?_ | refine below_drewN ?_ _ | refine le_drewN _ ?_ | refine Below.setCell ?_ ?_ _ | exact Nat.le_refl _ | refine le_ext _ ?_ | refine le_alloc _ ?_ | refine le_setCell _ _ ?_ | refine le_drew ?_) | omega | (simp; done) | (simp; omega))))).trans B7.out))⟩
end Go.Proofs.YtkkmioffclpmfaaGreat
/- The library's Delete of one place at numbers of the call's own. -/
set_option linter.unusedVariables false
set_option linter.unusedSimpArgs false
namespace Go.Proofs.YtkkmioffclpmfaaGreat
open Go.RowKit Go.Shelf Go.Sort Go.Lib

theorem erase_row (zs : List Int) (i : Nat) (hi : i < zs.length) : zs.take i ++ zs.drop (i + 1) ++ List.replicate (i + 1 - i) 0 = zs.eraseIdx i ++ [0] := by
  rw [List.eraseIdx_eq_take_drop_succ, show i + 1 - i = 1 by omega]; rfl
theorem delN_any (zs : List Int) (base i : Nat) (A : Option Addr) (n c : Nat) (w : World) (hi : i < n) (hown : Own w base (.slice A n c) zs) :
    Calls Tryz.prog 101 #[.slice A n c, .int .i64 i, .int .i64 ((i : Int) + 1)] w fun e w' => e = .returned (.slice A (n - 1) c) ∧ Own w' base (.slice A (n - 1) c) (zs.eraseIdx i) ∧ ∃ g, A = some ⟨g, 0, none⟩ ∧ But w w' g := by
  have hl := hown.ints.1
  unfold Own at hown
  obtain ⟨_, ⟨hv, h0⟩ | ⟨g, cap, cur, hv, hg, hgg, hnc, hcm, hsz, htk⟩⟩ := hown
  · injection hv with h1 h2 h3
    omega
  · injection hv with h1 h2 h3
    subst h1 h2 h3
    rw [Nat.mul_one] at htk hsz
    have hcell : ∀ j, j < zs.length → cur[j]? = some (.int .i64 (zs[j]!)) := fun j hj => by
      have : (cur.toList.take zs.length)[j]? = some (.int .i64 (zs[j]!)) := by
        rw [htk, List.getElem?_map, List.getElem?_eq_getElem hj, getElem!_pos zs j hj]; rfl
      rw [List.getElem?_take, if_pos hj] at this
      rw [← Array.getElem?_toList]; exact this
    have hH : Holds (Value.int .i64) w g 0 zs.toArray := fun j hj => by
      have hj' : j < zs.length := by simpa using hj
      refine ⟨?_, heap_frozen hgg _⟩
      rw [Nat.zero_add, heap_cell hgg, hcell j hj']
      congr 2
      simp [hj']
    have hcon := AnyG.slices_Delete_int Tryz.delI g 0 c i (i + 1) zs w hH (by omega) (by unfold maxLen at hcm; omega) (by omega) (by omega)
    rw [erase_row zs i hi, show i + 1 - i = 1 by omega] at hcon
    refine hcon.mono ?_
    rintro e w' ⟨rfl, q, rfl⟩
    have hel : (zs.eraseIdx i).length = zs.length - 1 := by rw [List.length_eraseIdx, if_pos hi]
    have hp2 : (putRow (Value.int .i64) (Sort.ahead w q) g 0 (zs.eraseIdx i ++ [0]).toArray).heap[g]? = some (.cells (putCells (Value.int .i64) 0 (zs.eraseIdx i ++ [0]).toArray cur) 3 (0, 0)) := by
      show ((Sort.ahead w q).heap.modify g _)[g]? = _
      rw [Array.getElem?_modify, if_pos rfl]
      show Option.map _ (w.heap[g]?) = _
      rw [hgg]; rfl
    have hs : (putRow (Value.int .i64) (Sort.ahead w q) g 0 (zs.eraseIdx i ++ [0]).toArray).heap.size = w.heap.size := by
      show ((Sort.ahead w q).heap.modify g _).size = _
      rw [Array.size_modify]; rfl
    refine ⟨rfl, ⟨by rw [hel]; simp [hel], .inr ⟨g, c, _, by rw [hel], hg, hp2, by omega, hcm, by simp [putCells, hsz], ?_⟩⟩, g, rfl, ⟨rfl, rfl, rfl, hs, fun k hk => ?_⟩⟩
    · refine List.ext_getElem? fun k => ?_
      rw [hel, Nat.mul_one, List.getElem?_take, List.getElem?_map]
      by_cases hk : k < zs.length - 1
      · rw [if_pos hk]
        unfold putCells
        rw [Array.getElem?_toList, Array.getElem?_mapIdx, Array.getElem?_eq_getElem (show k < cur.size by omega)]
        have hk2 : k < (zs.eraseIdx i).length := by rw [hel]; exact hk
        have hk3 : k < (zs.eraseIdx i ++ [0]).length := by rw [List.length_append]; omega
        rw [List.getElem?_eq_getElem hk2]
        simp only [Option.map_some, Nat.zero_le, Nat.sub_zero, Nat.zero_add, true_and, List.size_toArray, if_pos hk3]
        congr 2
        rw [getElem!_pos _ k (by simpa using hk3)]
        simp [List.getElem_append_left hk2]
      · rw [if_neg hk, List.getElem?_eq_none (by rw [hel]; omega)]; rfl
    · show ((Sort.ahead w q).heap.modify g _)[k]? = _
      rw [Array.getElem?_modify, if_neg (fun h => hk h.symm)]; rfl
end Go.Proofs.YtkkmioffclpmfaaGreat
/- Triangulate of the program. -/
set_option linter.unusedVariables false
set_option linter.unusedSimpArgs false
namespace Go.Proofs.YtkkmioffclpmfaaGreat
open Go.RowKit

theorem own_but {w W : World} {base g : Nat} {e : TypeId} {size : Nat} {v : Value} {n : Nat} {xs : List Value} (h : w.ownsRow base e size v n xs) (hb : But w W g) (hne : v.ownBlock ≠ some g) : W.ownsRow base e size v n xs := own_block h fun k hk => hb.block k (fun e => hne (by rw [← e]; exact hk))
theorem RowAt.one_set {w : World} {g : Nat} {T : TypeId} {v : Value} (h : RowAt w g T 1 fun _ => v) (u : Value) : RowAt (w.setCell ⟨g, 0, none⟩ u) g T 1 fun _ => u := (h.set (by omega) u).congr fun j hj => by rw [if_pos (show j = 0 by omega)]
theorem RowAt.one_new (w : World) (T : TypeId) (v : Value) : RowAt (w.alloc (.cells #[v] T)) w.heap.size T 1 fun _ => v := RowAt.new w #[v] T fun j hj => by have h1 : j < 1 := hj; rw [show j = 0 by omega]; rfl
theorem idx_nodup {rs : List Nat} {k m : Nat} (hl : rs.length = m) (hd : rs.Nodup) (hk : k < m) : firstIdx (fun i => (gn rs k : Int) == gi (zI rs) i) m = (k : Int) :=
  firstIdx_at hk (by rw [gi_zI]; exact beq_self_eq_true _) fun j hj => by
    rw [gi_zI, beq_eq_false_iff_ne]
    intro e
    have e2 : gn rs k = gn rs j := by omega
    exact absurd (gn_inj hd (by omega) (by omega) e2) (by omega)
theorem OwnT.made (w : World) (m base : Nat) (hb : base ≤ w.heap.size) (hm : m ≤ 1000000) : OwnT (w.alloc (.cells (madeCells #[.int .i64 0, .int .i64 0, .int .i64 0] (m * 3)) 37)) base (.slice (some ⟨w.heap.size, 0, none⟩) 0 m) [] :=
  ⟨rfl, .inr ⟨w.heap.size, m, _, rfl, hb, heap_alloc_new w _, Nat.zero_le _, by unfold maxLen; omega, by rw [size_madeCells], rfl⟩⟩
set_option maxHeartbeats 1000000 in
theorem tri1_any (ps : List Pt) (rs : List Nat) (k : Nat) (A Z : Option Addr) (n cc m d bp bl : Nat) (w : World) (hn : ps.length = n) (hl : rs.length = m) (hk : k < m) (hm : n ≤ 1000) (hm2 : m ≤ 1000) (hnd : rs.Nodup) (hr : ∀ j, j < m → gn rs j < n) (hib : ∀ p ∈ ps, (-100000 ≤ p.x ∧ p.x ≤ 100000) ∧ (-100000 ≤ p.y ∧ p.y ≤ 100000)) (hs : PtsAt w w.heap.size A ps) (hz : IntsAt w w.heap.size Z (zI rs))
    (hp : w.cell? ⟨bp, 0, none⟩ = some (.slice A n cc)) (hc : w.cell? ⟨bl, 0, none⟩ = some (.slice Z m d)) :
    Calls Tryz.prog 99 #[.int .i64 (gi (zI rs) k), .pointer (some ⟨bp, 0, none⟩), .pointer (some ⟨bl, 0, none⟩)] w fun e w' => e = .returned (.bool (earB ps rs k)) ∧ ∃ x, w' = ext w x := by
  have l0 : bp < w.heap.size := World.block_lt_of_cell? w _ hp
  have l1 : bl < w.heap.size := World.block_lt_of_cell? w _ hc
  have IX := hide (fun (W : World) (hb : Below w.heap.size w W) => indexN_any (zI rs) (gn rs k) Z m d W (by rw [zI_len, hl]) (by omega) (hz.to hb))
  rw [idx_nodup hl hnd hk] at IX
  have EA := hide (fun (W : World) (hb : Below w.heap.size w W) => earAt_any ps rs k A Z n cc m d W hn hl hk hm hm2 hr hib (hs.to hb) (hz.to hb))
  rw [gi_zI]
  have SC : Hid (∀ W : World, Below w.heap.size w W → W.cell? ⟨bp, 0, none⟩ = some (.slice A n cc) ∧ W.cell? ⟨bl, 0, none⟩ = some (.slice Z m d)) := hide (fun W hb => ⟨(hb.cell (p := ⟨bp, 0, none⟩) l0).trans hp, (hb.cell (p := ⟨bl, 0, none⟩) l1).trans hc⟩)
  clear hs hz hr hib hnd hn hl hp hc
  generalize gn rs k = G at *
  go_enter Tryz.func99, Tryz.ntmps99
  go_wp2_with fail
  go_region_held3 (fun W => W.cell? ⟨bp, 0, none⟩ = some (.slice A n cc) ∧ W.cell? ⟨bl, 0, none⟩ = some (.slice Z m d)) (exact SC.out _ (by (repeat' (first | (with_reducible first | exact Below.refl _ _ | assumption | refine below_ext _ ?_ ?_ | refine Below.alloc ?_ ?_ _ | refine Below.drew ?_ | refine below_drewN ?_ _ | refine le_drewN _ ?_ | refine Below.setCell ?_ ?_ _ | exact Nat.le_refl _ | refine le_ext _ ?_ | refine le_alloc _ ?_ | refine le_setCell _ _ ?_ | refine le_drew ?_) | omega | (simp; done) | (simp; omega))))) (first | (go_at_call 100; refine (IX.out _ (by (repeat' (first | (with_reducible first | exact Below.refl _ _ | assumption | refine below_ext _ ?_ ?_ | refine Below.alloc ?_ ?_ _ | refine Below.drew ?_ | refine below_drewN ?_ _ | refine le_drewN _ ?_ | refine Below.setCell ?_ ?_ _ | exact Nat.le_refl _ | refine le_ext _ ?_ | refine le_alloc _ ?_ | refine le_setCell _ _ ?_ | refine le_drew ?_) | omega | (simp; done) | (simp; omega))))).mono ?_; rintro e w' ⟨rfl, hw'⟩; have hzy1 := ext_sz hw'; obtain ⟨y1, rfl⟩ := hw'; (try simp at hzy1)) | (go_at_call 41; refine (EA.out _ (by (repeat' (first | (with_reducible first | exact Below.refl _ _ | assumption | refine below_ext _ ?_ ?_ | refine Below.alloc ?_ ?_ _ | refine Below.drew ?_ | refine below_drewN ?_ _ | refine le_drewN _ ?_ | refine Below.setCell ?_ ?_ _ | exact Nat.le_refl _ | refine le_ext _ ?_ | refine le_alloc _ ?_ | refine le_setCell _ _ ?_ | refine le_drew ?_) | omega | (simp; done) | (simp; omega))))).mono ?_; rintro e w' ⟨rfl, hw'⟩; have hzy2 := ext_sz hw'; obtain ⟨y2, rfl⟩ := hw'; (try simp at hzy2)))
  all_goals
    go_wp2_with fail
    go_ret
    exact ⟨rfl, (ext_mk (by (repeat' (first | (with_reducible first | exact Below.refl _ _ | assumption | refine below_ext _ ?_ ?_ | refine Below.alloc ?_ ?_ _ | refine Below.drew ?_ | refine below_drewN ?_ _ | refine le_drewN _ ?_ | refine Below.setCell ?_ ?_ _ | exact Nat.le_refl _ | refine le_ext _ ?_ | refine le_alloc _ ?_ | refine le_setCell _ _ ?_ | refine le_drew ?_) | omega | (simp; done) | (simp; omega)))))⟩
theorem triInf2 : (Tryz.prog.info? 37).map (fun i => (i.zero, i.size, i.bytes)) = some (some (.agg #[.int .i64 0, .int .i64 0, .int .i64 0]), 3, 24) := by kernel_rfl
set_option maxRecDepth 20000 in
set_option maxHeartbeats 4000000 in
theorem itri0_any (ps : List Pt) (A : Option Addr) (n c : Nat) (w : World) (hn : ps.length = n) (hok : clipB ps = true) (hs : PtsAt w w.heap.size A ps) :
    Calls Tryz.prog 49 #[.slice A n c] w fun e w' => ∃ v, e = .returned v ∧ OwnT w' w.heap.size v (triI ps) ∧ ∃ x, w' = ext w x := by
  have hsim := clipB_sim hok
  obtain ⟨hib, h3, h20, _, hnd⟩ := simB_parts hsim
  have CT := hide (fun (W : World) (hb : Below w.heap.size w W) => counter_any ps A n c W hn (by omega) (by omega) hib (hs.to hb))
  have CK : Hid (∀ k, k ≤ n - 3 → RingOk ps (clipR ps k) ∧ (clipR ps k).length = n - k) := hide (fun k hk => by rw [← hn]; exact clip_ok hsim k (by omega))
  have FE : Hid (∀ k, k < n - 3 → fEar ps (clipR ps k) < n - k ∧ earB ps (clipR ps k) (fEar ps (clipR ps k)) = true ∧ firstIdx (earB ps (clipR ps k)) (n - k) = (fEar ps (clipR ps k) : Int)) := hide (fun k hk => by
    obtain ⟨r1, r2⟩ := CK.out k (by omega)
    obtain ⟨f1, f2, f3, _⟩ := fEar_ok r1 (by omega)
    rw [r2] at f1 f3
    exact ⟨f1, f2, f3⟩)
  have GL : Hid (∀ k j, k ≤ n - 3 → j < n - k → gn (clipR ps k) j < n) := hide (fun k j hk hj => by rw [← hn]; exact (CK.out k hk).1.at_lt (by rw [(CK.out k hk).2]; exact hj))
  have EA := hide (fun (k j : Nat) (Z : Option Addr) (d : Nat) (W : World) (hb : Below w.heap.size w W) (hk : k ≤ n - 3) (hj : j < n - k) (hz : IntsAt W W.heap.size Z (zI (clipR ps k))) => earAt_any ps (clipR ps k) j A Z n c (n - k) d W hn (CK.out k hk).2 hj (by omega) (by omega) (fun i hi => GL.out k i hk hi) hib (hs.to hb) hz)
  have IX := hide (fun (k : Nat) (Z : Option Addr) (d bp bl : Nat) (W : World) (hb : Below w.heap.size w W) (hk : k ≤ n - 3) (hz : IntsAt W W.heap.size Z (zI (clipR ps k))) (hp : W.cell? ⟨bp, 0, none⟩ = some (.slice A n c)) (hc : W.cell? ⟨bl, 0, none⟩ = some (.slice Z (n - k) d)) =>
    IndexFuncN_any 99 #[.pointer (some ⟨bp, 0, none⟩), .pointer (some ⟨bl, 0, none⟩)] (earB ps (clipR ps k)) (zI (clipR ps k)) Z (n - k) d W (by rw [zI_len, (CK.out k hk).2]) (by omega) (enters _ Tryz.func99 (by kernel_rfl) rfl) hz (fun W' i hb' hi =>
      tri1_any ps (clipR ps k) i A Z n c (n - k) d bp bl W' hn (CK.out k hk).2 (by rw [zI_len, (CK.out k hk).2] at hi; exact hi) (by omega) (by omega) (CK.out k hk).1.nodup (fun j hj => GL.out k j hk hj) hib ((hs.to hb).to hb') (hz.to hb') ((hb'.cell (p := ⟨bp, 0, none⟩) (World.block_lt_of_cell? W _ hp)).trans hp) ((hb'.cell (p := ⟨bl, 0, none⟩) (World.block_lt_of_cell? W _ hc)).trans hc)))
  have ZL : Hid (∀ k, k ≤ n - 3 → (zI (clipR ps k)).length = n - k) := hide (fun k hk => by rw [zI_len, (CK.out k hk).2])
  have R0 : Hid (zI (clipR ps 0) = rgL ps) := hide (zI_rgN ps)
  have NXR : Hid (∀ k, k < n - 3 → zI (clipR ps (k + 1)) = (zI (clipR ps k)).eraseIdx (fEar ps (clipR ps k))) := hide (fun k hk => by
    rw [show clipR ps (k + 1) = (clipR ps k).eraseIdx (fEar ps (clipR ps k)) from rfl, zI_erase (by rw [(CK.out k (by omega)).2]; exact (FE.out k hk).1), List.nil_append, List.eraseIdx_eq_take_drop_succ])
  have NXO := hide (clipO_one ps)
  have OL : Hid (∀ k, ((clipO ps k).map ofN).length = k) := hide (fun k => by rw [List.length_map, clipO_len])
  have LAST : Hid (triI ps = (clipO ps (n - 3)).map ofN ++ [⟨gn (clipR ps (n - 3)) 0, gn (clipR ps (n - 3)) 1, gn (clipR ps (n - 3)) 2⟩]) := hide (by rw [← hn]; exact clip_last ps)
  have k20 : n ≤ 20 := by omega
  have k3 : 3 ≤ n := by omega
  have hmk : ∀ w : World, (Instr.makeSlice 30 (.int .i64 0) (.int .i64 ((n : Int) - 2))).run Tryz.prog w = .ok (.slice (some ⟨w.heap.size, 0, none⟩) 0 (n - 2)) (w.alloc (.cells (madeCells #[.int .i64 0, .int .i64 0, .int .i64 0] ((n - 2) * 3)) 37)) := fun W => by
    obtain ⟨i0, hi, hz0, hz1, hz2⟩ := info_parts triInf2
    have := make_row (P := Tryz.prog) 30 37 i0 _ Tryz.underlying30 hi hz0 0 (n - 2) (Nat.zero_le _) (by rw [hz2]; omega) (by omega) W
    rw [hz1, show ((n - 2 : Nat) : Int) = (n : Int) - 2 by omega] at this; exact this
  have w1 : IntKind.i64.wrap ((n : Int) - 2) = (n : Int) - 2 := IntWalk.i64_in _ (by omega)
  clear hn hok hs hsim hib h3 h20 hnd CK GL
  go_enter Tryz.func49, Tryz.ntmps49
  go_wp2_with fail
  refine (CT.out _ (by (repeat' (first | (with_reducible first | exact Below.refl _ _ | assumption | refine below_ext _ ?_ ?_ | refine Below.alloc ?_ ?_ _ | refine Below.drew ?_ | refine below_drewN ?_ _ | refine le_drewN _ ?_ | refine Below.setCell ?_ ?_ _ | exact Nat.le_refl _ | refine le_ext _ ?_ | refine le_alloc _ ?_ | refine le_setCell _ _ ?_ | refine le_drew ?_) | omega | (simp; done) | (simp; omega))))).mono ?_
  rintro e w2 ⟨v2, rfl, own2, hx2⟩
  rw [← R0.out] at own2
  obtain ⟨A2, n2, c2, rfl⟩ := own_slice own2
  have l2 := own2.ints
  have e2 : n = n2 := by rw [← l2.1, ZL.out 0 (Nat.zero_le _)]; rfl
  subst e2
  obtain ⟨g, rfl, hg, lg, _, _⟩ := own2.head (by omega)
  have O2 := hide own2
  have B2 := hide (ext_bel hx2)
  have s2 : w.heap.size + 1 ≤ w2.heap.size := by have := B2.out.size; simpa using this
  have hg : w.heap.size + 1 ≤ g := by simpa using hg
  have cp2 : w2.cell? ⟨w.heap.size, 0, none⟩ = some (.slice A n c) := (B2.out.cell (p := ⟨w.heap.size, 0, none⟩) (by simp)).trans (heap_cell (heap_alloc_new w _) 0)
  have q2 := l2.2.2.1
  have q3 := l2.2.1
  unfold maxLen at q2
  have BW2 : Hid (Below w.heap.size w w2) := hide ((show Below w.heap.size w (w.alloc _) from (by (repeat' (first | (with_reducible first | exact Below.refl _ _ | assumption | refine below_ext _ ?_ ?_ | refine Below.alloc ?_ ?_ _ | refine Below.drew ?_ | refine below_drewN ?_ _ | refine le_drewN _ ?_ | refine Below.setCell ?_ ?_ _ | exact Nat.le_refl _ | refine le_ext _ ?_ | refine le_alloc _ ?_ | refine le_setCell _ _ ?_ | refine le_drew ?_) | omega | (simp; done) | (simp; omega))))).trans (B2.out.mono (by simp)))
  clear own2 hx2 R0 CT l2 B2
  go_wp2_with fail
  have M4 := fun W : World => OwnT.made W (n - 2) (w2.heap.size + 1)
  go_loopw [4, 5, 6, 7] (fun u4 _ _ _ wr => ∃ k : Nat, k ≤ n - 3 ∧ RowAt wr w2.heap.size 25 1 (fun _ => .slice (some ⟨g, 0, none⟩) (n - k) c2) ∧ Own wr (w.heap.size + 1) (.slice (some ⟨g, 0, none⟩) (n - k) c2) (zI (clipR ps k)) ∧ OwnT wr (w2.heap.size + 1) u4 ((clipO ps k).map ofN) ∧ Below w.heap.size w wr ∧ wr.cell? ⟨w.heap.size, 0, none⟩ = some (.slice A n c)) (fun u4 _ _ _ _ => match u4 with | .slice _ l _ => n - l | _ => 0)
  case atStart =>
    refine ⟨0, Nat.zero_le _, ?_, ?_, ?_, ?_, ?_⟩
    · exact (RowAt.one_new w2 _ _).alloc _
    · exact O2.out.below (by (repeat' (first | (with_reducible first | exact Below.refl _ _ | assumption | refine below_ext _ ?_ ?_ | refine Below.alloc ?_ ?_ _ | refine Below.drew ?_ | refine below_drewN ?_ _ | refine le_drewN _ ?_ | refine Below.setCell ?_ ?_ _ | exact Nat.le_refl _ | refine le_ext _ ?_ | refine le_alloc _ ?_ | refine le_setCell _ _ ?_ | refine le_drew ?_) | omega | (simp; done) | (simp; omega)))) |>.base (by simp)
    · have h := M4 (w2.alloc (.cells #[.slice (some ⟨g, 0, none⟩) n c2] 25)) (by simp) (by omega)
      rw [show (clipO ps 0).map ofN = [] from rfl]
      simpa using h
    · exact BW2.out.trans (by (repeat' (first | (with_reducible first | exact Below.refl _ _ | assumption | refine below_ext _ ?_ ?_ | refine Below.alloc ?_ ?_ _ | refine Below.drew ?_ | refine below_drewN ?_ _ | refine le_drewN _ ?_ | refine Below.setCell ?_ ?_ _ | exact Nat.le_refl _ | refine le_ext _ ?_ | refine le_alloc _ ?_ | refine le_setCell _ _ ?_ | refine le_drew ?_) | omega | (simp; done) | (simp; omega))))
    · exact ((show Below w2.heap.size w2 _ from (by (repeat' (first | (with_reducible first | exact Below.refl _ _ | assumption | refine below_ext _ ?_ ?_ | refine Below.alloc ?_ ?_ _ | refine Below.drew ?_ | refine below_drewN ?_ _ | refine le_drewN _ ?_ | refine Below.setCell ?_ ?_ _ | exact Nat.le_refl _ | refine le_ext _ ?_ | refine le_alloc _ ?_ | refine le_setCell _ _ ?_ | refine le_drew ?_) | omega | (simp; done) | (simp; omega))))).cell (p := ⟨w.heap.size, 0, none⟩) (by simp; omega)).trans cp2
  case round =>
    obtain ⟨k, hk, hrow, hown, hownT, hbel, hcp⟩ := hrel
    obtain ⟨A4, n4, c4, rfl⟩ := hownT.slice
    have hcl := hrow.cell (j := 0) (by omega)
    have hfr := hrow.frozen 0
    have lbl := hrow.lt
    have HR := hide hrow
    have I3 := hide hown.ints.2.2.2
    have e4 : k = n4 := by rw [← hownT.tris.1]; exact (OL.out k).symm
    subst e4
    have OWG : Hid (∀ W : World, W.heap[g]? = wr.heap[g]? → Own W (w.heap.size + 1) (.slice (some ⟨g, 0, none⟩) (n - k) c2) (zI (clipR ps k))) := hide (fun W h => own_block hown fun j hj => by injection hj with hj; rw [← show g = j from hj]; exact h)
    have OWT := hide hownT
    have LT4 := hide hownT.lt
    have hsz := hbel.size
    have CELk : 0 < n - k → ∀ i, i < n - k → wr.cell? ⟨g, i, none⟩ = some (.int .i64 (gi (zI (clipR ps k)) i)) := fun h0 => by
      obtain ⟨g3, e5, _, _, _, C⟩ := hown.head h0
      injection e5 with e5
      injection e5 with e5
      rw [e5]; exact C
    have hcp0 := hcp
    obtain ⟨W0, hW0⟩ : ∃ W0, W0 = wr := ⟨_, rfl⟩
    subst hW0
    clear hown hownT hrow
    by_cases hlt : k < n - 3
    · obtain ⟨f1, f2, f3⟩ := FE.out k hlt
      have NXR1 := hide (NXR.out k hlt)
      have NXO1 := hide (NXO.out k)
      have OLk := hide (OL.out k)
      have IXk := hide (fun (W : World) (hb : Below W0.heap.size W0 W) (hp : W.cell? ⟨w.heap.size, 0, none⟩ = some (.slice A n c)) (hc : W.cell? ⟨w2.heap.size, 0, none⟩ = some (.slice (some ⟨g, 0, none⟩) (n - k) c2)) => IX.out k (some ⟨g, 0, none⟩) c2 w.heap.size w2.heap.size W (hbel.trans (hb.mono hsz)) hk (I3.out.to hb) hp hc)
      rw [f3] at IXk
      have EAk := hide (fun (W : World) (hb : Below W0.heap.size W0 W) => EA.out k (fEar ps (clipR ps k)) (some ⟨g, 0, none⟩) c2 W (hbel.trans (hb.mono hsz)) hk f1 (I3.out.to hb))
      rw [f2] at EAk
      have DL := hide (fun (W : World) (h : W.heap[g]? = W0.heap[g]?) => delN_any (zI (clipR ps k)) (w.heap.size + 1) (fEar ps (clipR ps k)) (some ⟨g, 0, none⟩) (n - k) c2 W f1 (OWG.out W h))
      rw [← NXR1.out] at DL
      have hm1 : n - (k + 1) = n - k - 1 := by omega
      have hm3 : 3 < n - k := by omega
      have hmn : n - k ≤ n := by omega
      clear EA IX NXR NXO OL ZL LAST FE CELk f3 f2
      generalize fEar ps (clipR ps k) = fe at *
      generalize (clipO ps k).map ofN = T0 at *
      generalize (bef (clipR ps k) fe) = ga at *
      generalize (gn (clipR ps k) fe) = gb at *
      generalize (aft (clipR ps k) fe) = gc at *
      generalize n - k = m at *
      have HM1 := hide hm1
      clear hm1
      have d1 : decide ((3 : Int) < (m : Int)) = true := decide_eq_true (by omega)
      have d2 : decide ((fe : Int) < 0) = false := decide_eq_false (by omega)
      have w5 : IntKind.i64.wrap ((fe : Int) + 1) = (fe : Int) + 1 := IntWalk.i64_in _ (by omega)
      have NL : T0.length ≤ 2000000 := by rw [OLk.out]; omega
      go_wp2_with fail
      refine (IXk.out _ (by (repeat' (first | (with_reducible first | exact Below.refl _ _ | assumption | refine below_ext _ ?_ ?_ | refine Below.alloc ?_ ?_ _ | refine Below.drew ?_ | refine below_drewN ?_ _ | refine le_drewN _ ?_ | refine Below.setCell ?_ ?_ _ | exact Nat.le_refl _ | refine le_ext _ ?_ | refine le_alloc _ ?_ | refine le_setCell _ _ ?_ | refine le_drew ?_) | omega | (simp; done) | (simp; omega)))) hcp hcl).mono ?_
      rintro e w' ⟨rfl, hw'⟩; have hzy1 := ext_sz hw'; obtain ⟨y1, rfl⟩ := hw'; (try simp at hzy1)
      go_wp2_with fail
      refine (EAk.out _ (by (repeat' (first | (with_reducible first | exact Below.refl _ _ | assumption | refine below_ext _ ?_ ?_ | refine Below.alloc ?_ ?_ _ | refine Below.drew ?_ | refine below_drewN ?_ _ | refine le_drewN _ ?_ | refine Below.setCell ?_ ?_ _ | exact Nat.le_refl _ | refine le_ext _ ?_ | refine le_alloc _ ?_ | refine le_setCell _ _ ?_ | refine le_drew ?_) | omega | (simp; done) | (simp; omega))))).mono ?_
      rintro e w' ⟨rfl, hw'⟩; have hzy2 := ext_sz hw'; obtain ⟨y2, rfl⟩ := hw'; (try simp at hzy2)
      have BW : Below W0.heap.size W0 (ext (ext W0 y1) y2) := (by (repeat' (first | (with_reducible first | exact Below.refl _ _ | assumption | refine below_ext _ ?_ ?_ | refine Below.alloc ?_ ?_ _ | refine Below.drew ?_ | refine below_drewN ?_ _ | refine le_drewN _ ?_ | refine Below.setCell ?_ ?_ _ | exact Nat.le_refl _ | refine le_ext _ ?_ | refine le_alloc _ ?_ | refine le_setCell _ _ ?_ | refine le_drew ?_) | omega | (simp; done) | (simp; omega))))
      generalize ext (ext W0 y1) y2 = W1 at *
      have sW := BW.size
      have cl1 := (BW.cell (p := ⟨w2.heap.size, 0, none⟩) lbl).trans hcl
      go_wp2_with (at_builtin; refine app_tri rfl _ _ rfl (w2.heap.size + 1) (.slice A4 k c4) T0 rfl (OWT.out.below (by (repeat' (first | (with_reducible first | exact Below.refl _ _ | assumption | refine below_ext _ ?_ ?_ | refine Below.alloc ?_ ?_ _ | refine Below.drew ?_ | refine below_drewN ?_ _ | refine le_drewN _ ?_ | refine Below.setCell ?_ ?_ _ | exact Nat.le_refl _ | refine le_ext _ ?_ | refine le_alloc _ ?_ | refine le_setCell _ _ ?_ | refine le_drew ?_) | omega | (simp; done) | (simp; omega))))) ga gb gc _ _ rfl (by simp [go_sem]) (by simp [go_sem]) (by simp [go_sem]) NL (by simp; omega) ?_; intro v7 w7 hown7 hb7 hat7 hgr7; obtain ⟨A7, n7, c7, rfl⟩ := hown7.slice; have O7 := hide hown7; have BK7 : Hid (∀ j, j < w2.heap.size + 1 → w7.heap[j]? = W0.heap[j]?) := hide (fun j hj => (hb7.block j hj).trans ((show Below W0.heap.size W0 _ from (by (repeat' (first | (with_reducible first | exact Below.refl _ _ | assumption | refine below_ext _ ?_ ?_ | refine Below.alloc ?_ ?_ _ | refine Below.drew ?_ | refine below_drewN ?_ _ | refine le_drewN _ ?_ | refine Below.setCell ?_ ?_ _ | exact Nat.le_refl _ | refine le_ext _ ?_ | refine le_alloc _ ?_ | refine le_setCell _ _ ?_ | refine le_drew ?_) | omega | (simp; done) | (simp; omega))))).block j (by omega))); have R7 := HR.out.block (BK7.out w2.heap.size (by omega)); have cl7 := R7.cell (j := 0) (by omega); have B7 := hide (Below.trans (Below.mono (show Below W0.heap.size W0 _ from (by (repeat' (first | (with_reducible first | exact Below.refl _ _ | assumption | refine below_ext _ ?_ ?_ | refine Below.alloc ?_ ?_ _ | refine Below.drew ?_ | refine below_drewN ?_ _ | refine le_drewN _ ?_ | refine Below.setCell ?_ ?_ _ | exact Nat.le_refl _ | refine le_ext _ ?_ | refine le_alloc _ ?_ | refine le_setCell _ _ ?_ | refine le_drew ?_) | omega | (simp; done) | (simp; omega))))) (show w2.heap.size + 1 ≤ W0.heap.size by omega)) hb7); clear hown7 hat7 hgr7 hb7)
      refine (DL.out _ (BK7.out g (by omega))).mono ?_
      rintro e w8 ⟨rfl, own8, g8, hg8, but8⟩
      injection hg8 with hg8
      injection hg8 with hg8
      subst hg8
      have R8 := R7.but but8 (by omega)
      have cl8 := R8.cell (j := 0) (by omega)
      have fr8 := R8.frozen 0
      go_wp2_with fail
      have LT7 := O7.out.lt
      have e7 : k + 1 = n7 := by have := O7.out.tris.1; rw [List.length_append, OLk.out] at this; exact this
      refine ⟨⟨k + 1, by omega, ?_, ?_, ?_, ?_, ?_⟩, ?_⟩
      · rw [HM1.out]; exact R8.one_set _
      · rw [HM1.out]; exact own_but own8 ((But.refl _ _).set _ _) (fun h => by injection h with h; have h : g = w2.heap.size := h; omega)
      · rw [NXO1.out]; exact own_but (own_but O7.out but8 (fun h => absurd lg (Nat.not_lt.2 (Nat.le_of_succ_le (LT7 g h))))) ((But.refl _ _).set _ _) (fun h => absurd (LT7 _ h) (Nat.not_succ_le_self _))
      · exact (hbel.trans (B7.out.mono (by omega))).trans ((but8.below (B := w.heap.size) (by omega)).trans (show Below w.heap.size w8 _ from (by (repeat' (first | (with_reducible first | exact Below.refl _ _ | assumption | refine below_ext _ ?_ ?_ | refine Below.alloc ?_ ?_ _ | refine Below.drew ?_ | refine below_drewN ?_ _ | refine le_drewN _ ?_ | refine Below.setCell ?_ ?_ _ | exact Nat.le_refl _ | refine le_ext _ ?_ | refine le_alloc _ ?_ | refine le_setCell _ _ ?_ | refine le_drew ?_) | omega | (simp; done) | (simp; omega))))))
      · exact (World.cell?_of_block ((Below.heap_setCell _ _ _ _ (show w.heap.size ≠ w2.heap.size by omega)).trans ((but8.block w.heap.size (by omega)).trans (BK7.out w.heap.size (by omega))))).trans hcp0
      · show n - n7 < n - k
        omega
    · have ek : k = n - 3 := by omega
      subst ek
      have CEL := CELk (by omega)
      have z0 := CEL 0 (by omega)
      have z1 := CEL 1 (by omega)
      have z2 := CEL 2 (by omega)
      rw [gi_zI] at z0 z1 z2
      have LA := hide LAST.out
      have OLk := hide (OL.out (n - 3))
      clear EA IX NXR NXO OL ZL LAST FE CELk CEL OWG I3
      generalize gn (clipR ps (n - 3)) 0 = ga at *
      generalize gn (clipR ps (n - 3)) 1 = gb at *
      generalize gn (clipR ps (n - 3)) 2 = gc at *
      have en : n - (n - 3) = 3 := by omega
      rw [en] at hcl
      have d1 : decide ((3 : Int) < ((3 : Nat) : Int)) = false := by decide
      have OD : Hid (∀ o, OwnT ((W0.alloc o).drew) (w2.heap.size + 1) (.slice A4 (n - 3) c4) ((clipO ps (n - 3)).map ofN)) := hide (fun o => OWT.out.below (show Below W0.heap.size W0 ((W0.alloc o).drew) from (by (repeat' (first | (with_reducible first | exact Below.refl _ _ | assumption | refine below_ext _ ?_ ?_ | refine Below.alloc ?_ ?_ _ | refine Below.drew ?_ | refine below_drewN ?_ _ | refine le_drewN _ ?_ | refine Below.setCell ?_ ?_ _ | exact Nat.le_refl _ | refine le_ext _ ?_ | refine le_alloc _ ?_ | refine le_setCell _ _ ?_ | refine le_drew ?_) | omega | (simp; done) | (simp; omega))))))
      have SZ : Hid (∀ o : Obj, w2.heap.size + 1 ≤ ((W0.alloc o).drew).heap.size) := hide (fun o => (by first | (simp; done) | (simp; omega)))
      have NC : Hid (∀ o : Obj, ((W0.alloc o).drew).heap[W0.heap.size]? = some o) := hide (fun o => heap_alloc_new W0 o)
      have NL : ((clipO ps (n - 3)).map ofN).length ≤ 2000000 := by rw [OLk.out]; omega
      have SC : Hid (∀ W : World, W.heap[g]? = W0.heap[g]? → W.heap[w2.heap.size]? = W0.heap[w2.heap.size]? → W.cell? ⟨w2.heap.size, 0, none⟩ = some (.slice (some ⟨g, 0, none⟩) 3 c2) ∧ W.cell? ⟨g, 0, none⟩ = some (.int .i64 ga) ∧ W.cell? ⟨g, 1, none⟩ = some (.int .i64 gb) ∧ W.cell? ⟨g, 2, none⟩ = some (.int .i64 gc)) := hide (fun W h h2 => ⟨(World.cell?_of_block h2).trans hcl, (World.cell?_of_block h).trans z0, (World.cell?_of_block h).trans z1, (World.cell?_of_block h).trans z2⟩)
      clear z0 z1 z2 hfr
      have lg0 : g < W0.heap.size := by omega
      go_wp2_with fail
      go_region_held3 (fun W => W.cell? ⟨w2.heap.size, 0, none⟩ = some (.slice (some ⟨g, 0, none⟩) 3 c2) ∧ W.cell? ⟨g, 0, none⟩ = some (.int .i64 ga) ∧ W.cell? ⟨g, 1, none⟩ = some (.int .i64 gb) ∧ W.cell? ⟨g, 2, none⟩ = some (.int .i64 gc)) (first | exact SC.out _ rfl rfl | exact SC.out _ (Below.heap_alloc _ _ _ lg0) (Below.heap_alloc _ _ _ lbl) | exact SC.out _ ((hb7b.out.block _ (by omega)).trans (Below.heap_alloc _ _ _ lg0)) ((hb7b.out.block _ (by omega)).trans (Below.heap_alloc _ _ _ lbl))) (first | (refine step_tri (by rfl) (.tmp 38) (.tmp 49) (by rfl) (w2.heap.size + 1) (.slice A4 (n - 3) c4) ((clipO ps (n - 3)).map ofN) (by rfl) (OD.out _) ga gb gc W0.heap.size 1 (by rfl) ((heap_cell (NC.out _) 0).trans rfl) ((heap_cell (NC.out _) 1).trans rfl) ((heap_cell (NC.out _) 2).trans rfl) NL (SZ.out _) ?_; intro v7 w7 hown7 hb7 hat7 hgr7; obtain ⟨A7, n7, c7, rfl⟩ := hown7.slice; have O7 := hide hown7; have hb7b := hide hb7; clear hown7 hat7 hgr7 hb7))
      all_goals
        go_wp2_with fail
        go_ret
        refine ⟨_, rfl, by rw [LA.out]; exact O7.out.base (by omega), ext_mk (hbel.trans ((show Below w.heap.size W0 _ from (by (repeat' (first | (with_reducible first | exact Below.refl _ _ | assumption | refine below_ext _ ?_ ?_ | refine Below.alloc ?_ ?_ _ | refine Below.drew ?_ | refine below_drewN ?_ _ | refine le_drewN _ ?_ | refine Below.setCell ?_ ?_ _ | exact Nat.le_refl _ | refine le_ext _ ?_ | refine le_alloc _ ?_ | refine le_setCell _ _ ?_ | refine le_drew ?_) | omega | (simp; done) | (simp; omega))))).trans (hb7b.out.mono (by omega))))⟩
set_option maxHeartbeats 1000000 in
theorem iTri_any (ps : List Pt) (A : Option Addr) (n c : Nat) (w : World) (hn : ps.length = n) (hm : n ≤ 2000000) (hA : Plain A n) (hs : PtsAt w w.heap.size A ps) :
    Calls Tryz.prog 16 #[.slice A n c] w fun e w' => ∃ v, e = .returned v ∧ OwnT w' w.heap.size v (triV ps) ∧ ∃ x, w' = ext w x := by
  have HC := hide (clippable_any ps A n c w hn hm hA hs)
  by_cases hok : clipB ps = true
  · rw [hok] at HC
    have HV : Hid (triV ps = triI ps) := hide (if_pos hok)
    have TR := hide (fun (W : World) (hb : Below w.heap.size w W) => itri0_any ps A n c W hn hok (hs.to hb))
    rw [HV.out]
    clear hok hn hs HV
    go_enter Tryz.func16, Tryz.ntmps16
    go_wp2_with fail
    refine HC.out.mono ?_
    rintro e w' ⟨rfl, hw'⟩; have hzy1 := ext_sz hw'; obtain ⟨y1, rfl⟩ := hw'; (try simp at hzy1)
    go_wp2_with fail
    refine (TR.out _ (by (repeat' (first | (with_reducible first | exact Below.refl _ _ | assumption | refine below_ext _ ?_ ?_ | refine Below.alloc ?_ ?_ _ | refine Below.drew ?_ | refine below_drewN ?_ _ | refine le_drewN _ ?_ | refine Below.setCell ?_ ?_ _ | exact Nat.le_refl _ | refine le_ext _ ?_ | refine le_alloc _ ?_ | refine le_setCell _ _ ?_ | refine le_drew ?_) | omega | (simp; done) | (simp; omega))))).mono ?_
    rintro e w2 ⟨v2, rfl, own2, hx2⟩
    have B2 := ext_bel hx2
    go_wp2_with fail
    go_ret
    exact ⟨v2, rfl, own2.base (by omega), ext_mk ((show Below w.heap.size w (ext w y1) from (by (repeat' (first | (with_reducible first | exact Below.refl _ _ | assumption | refine below_ext _ ?_ ?_ | refine Below.alloc ?_ ?_ _ | refine Below.drew ?_ | refine below_drewN ?_ _ | refine le_drewN _ ?_ | refine Below.setCell ?_ ?_ _ | exact Nat.le_refl _ | refine le_ext _ ?_ | refine le_alloc _ ?_ | refine le_setCell _ _ ?_ | refine le_drew ?_) | omega | (simp; done) | (simp; omega))))).trans (B2.mono (by omega)))⟩
  · have hok := eq_false_of_ne_true hok
    rw [hok] at HC
    have HV : Hid (triV ps = []) := hide (if_neg (by rw [hok]; decide))
    rw [HV.out]
    clear hok hs hn HV
    go_enter Tryz.func16, Tryz.ntmps16
    go_wp2_with fail
    refine HC.out.mono ?_
    rintro e w' ⟨rfl, hw'⟩; have hzy1 := ext_sz hw'; obtain ⟨y1, rfl⟩ := hw'; (try simp at hzy1)
    go_wp2_with fail
    go_ret
    exact ⟨_, rfl, OwnT.nil _ _, (ext_mk (by (repeat' (first | (with_reducible first | exact Below.refl _ _ | assumption | refine below_ext _ ?_ ?_ | refine Below.alloc ?_ ?_ _ | refine Below.drew ?_ | refine below_drewN ?_ _ | refine le_drewN _ ?_ | refine Below.setCell ?_ ?_ _ | exact Nat.le_refl _ | refine le_ext _ ?_ | refine le_alloc _ ?_ | refine le_setCell _ _ ?_ | refine le_drew ?_) | omega | (simp; done) | (simp; omega)))))⟩
set_option maxHeartbeats 1000000 in
theorem sTri_any (ps : List Pt) (A : Option Addr) (n c : Nat) (w : World) (hn : ps.length = n) (hm : n ≤ 2000000) (hs : PtsAt w w.heap.size A ps) :
    Calls Tryz.prog 18 #[.slice A n c] w fun e w' => ∃ v, e = .returned v ∧ OwnT w' w.heap.size v (triV ps) ∧ ∃ x, w' = ext w x := by
  have HC := hide (validBorder_any ps A n c w hn hm hs)
  by_cases hok : clipB ps = true
  · rw [hok] at HC
    have HV : Hid (triV ps = triI ps) := hide (if_pos hok)
    have TR := hide (fun (W : World) (hb : Below w.heap.size w W) => cutEars_any ps A n c W hn hok (hs.to hb))
    rw [HV.out]
    clear hok hn hs HV
    go_enter Tryz.func18, Tryz.ntmps18
    go_wp2_with fail
    refine HC.out.mono ?_
    rintro e w' ⟨rfl, hw'⟩; have hzy1 := ext_sz hw'; obtain ⟨y1, rfl⟩ := hw'; (try simp at hzy1)
    go_wp2_with fail
    refine (TR.out _ (by (repeat' (first | (with_reducible first | exact Below.refl _ _ | assumption | refine below_ext _ ?_ ?_ | refine Below.alloc ?_ ?_ _ | refine Below.drew ?_ | refine below_drewN ?_ _ | refine le_drewN _ ?_ | refine Below.setCell ?_ ?_ _ | exact Nat.le_refl _ | refine le_ext _ ?_ | refine le_alloc _ ?_ | refine le_setCell _ _ ?_ | refine le_drew ?_) | omega | (simp; done) | (simp; omega))))).mono ?_
    rintro e w2 ⟨v2, rfl, own2, hx2⟩
    have B2 := ext_bel hx2
    go_wp2_with fail
    go_ret
    exact ⟨v2, rfl, own2.base (by omega), ext_mk ((show Below w.heap.size w (ext w y1) from (by (repeat' (first | (with_reducible first | exact Below.refl _ _ | assumption | refine below_ext _ ?_ ?_ | refine Below.alloc ?_ ?_ _ | refine Below.drew ?_ | refine below_drewN ?_ _ | refine le_drewN _ ?_ | refine Below.setCell ?_ ?_ _ | exact Nat.le_refl _ | refine le_ext _ ?_ | refine le_alloc _ ?_ | refine le_setCell _ _ ?_ | refine le_drew ?_) | omega | (simp; done) | (simp; omega))))).trans (B2.mono (by omega)))⟩
  · have hok := eq_false_of_ne_true hok
    rw [hok] at HC
    have HV : Hid (triV ps = []) := hide (if_neg (by rw [hok]; decide))
    rw [HV.out]
    clear hok hs hn HV
    go_enter Tryz.func18, Tryz.ntmps18
    go_wp2_with fail
    refine HC.out.mono ?_
    rintro e w' ⟨rfl, hw'⟩; have hzy1 := ext_sz hw'; obtain ⟨y1, rfl⟩ := hw'; (try simp at hzy1)
    go_wp2_with fail
    go_ret
    exact ⟨_, rfl, OwnT.nil _ _, (ext_mk (by (repeat' (first | (with_reducible first | exact Below.refl _ _ | assumption | refine below_ext _ ?_ ?_ | refine Below.alloc ?_ ?_ _ | refine Below.drew ?_ | refine below_drewN ?_ _ | refine le_drewN _ ?_ | refine Below.setCell ?_ ?_ _ | exact Nat.le_refl _ | refine le_ext _ ?_ | refine le_alloc _ ?_ | refine le_setCell _ _ ?_ | refine le_drew ?_) | omega | (simp; done) | (simp; omega)))))⟩
end Go.Proofs.YtkkmioffclpmfaaGreat
