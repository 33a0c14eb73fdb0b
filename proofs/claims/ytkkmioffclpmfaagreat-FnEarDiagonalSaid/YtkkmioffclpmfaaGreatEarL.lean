
/- EarsOf: the program's and the reference's. -/
import Derived.Test.YtkkmioffclpmfaaGreatClip
import Derived.Test.YtkkmioffclpmfaaGreatEarS
import Derived.Test.YtkkmioffclpmfaaGreatCan
import Derived.Test.YtkkmioffclpmfaaGreatSortN
import Derived.Test.YtkkmioffclpmfaaGreatIRow
set_option linter.unusedVariables false
set_option linter.unusedSimpArgs false
namespace Go.Proofs.YtkkmioffclpmfaaGreat
open Go.RowKit

/-- The ears in the order of the ring, from the first k places. -/
def earO (ps : List Pt) (k : Nat) : List Int := ((List.range k).filter (earB ps (rgN ps))).map fun i : Nat => (gn (rgN ps) i : Int)
theorem earO_yes {ps : List Pt} {k : Nat} (h : earB ps (rgN ps) k = true) : earO ps (k + 1) = earO ps k ++ [(gn (rgN ps) k : Int)] := by
  unfold earO; rw [List.range_succ, List.filter_append, List.map_append]; simp [h]
theorem earO_no {ps : List Pt} {k : Nat} (h : earB ps (rgN ps) k = false) : earO ps (k + 1) = earO ps k := by
  unfold earO; rw [List.range_succ, List.filter_append, List.map_append]; simp [h]
theorem earO_len (ps : List Pt) (k : Nat) : (earO ps k).length ≤ k := by
  unfold earO; rw [List.length_map]; exact Nat.le_trans (List.length_filter_le _ _) (by simp)
theorem earsTo_yes {ps : List Pt} {v : Nat} (h : earV ps v = true) : earsTo ps (v + 1) = earsTo ps v ++ [(v : Int)] := by
  unfold earsTo; rw [List.range_succ, List.filter_append, List.map_append]; simp [h]
theorem earsTo_no {ps : List Pt} {v : Nat} (h : earV ps v = false) : earsTo ps (v + 1) = earsTo ps v := by
  unfold earsTo; rw [List.range_succ, List.filter_append, List.map_append]; simp [h]
theorem earsTo_len (ps : List Pt) (k : Nat) : (earsTo ps k).length ≤ k := by
  unfold earsTo; rw [List.length_map]; exact Nat.le_trans (List.length_filter_le _ _) (by simp)
theorem earsTo_asc (ps : List Pt) (k : Nat) : (earsTo ps k).Pairwise (· < ·) := by
  unfold earsTo
  rw [List.pairwise_map]
  refine List.Pairwise.imp (R := (· < ·)) (fun {a b} h => ?_) (List.Pairwise.filter _ List.pairwise_lt_range)
  omega
theorem earO_sort (ps : List Pt) : srtI (earO ps ps.length) = earsL ps := by
  refine srtI_is ?_ (earsTo_asc ps _) fun q => ?_
  · unfold earO
    refine List.pairwise_map.2 (List.Pairwise.imp_of_mem (R := (· < ·)) (fun {a b} ha hb h e => ?_) (List.Pairwise.filter _ List.pairwise_lt_range))
    have la := List.mem_range.1 (List.mem_filter.1 ha).1
    have lb := List.mem_range.1 (List.mem_filter.1 hb).1
    rw [rgN_at la, rgN_at lb] at e
    have := rgI_inj la lb (by omega)
    omega
  · unfold earO earsL earsTo
    rw [List.mem_map, List.mem_map]
    constructor
    · rintro ⟨i, hi, rfl⟩
      obtain ⟨hi, he⟩ := List.mem_filter.1 hi
      have hi := List.mem_range.1 hi
      refine ⟨rgI ps i, List.mem_filter.2 ⟨List.mem_range.2 (rgI_lt hi), ?_⟩, by rw [rgN_at hi]⟩
      unfold earV; rw [rgI_inv hi]; exact he
    · rintro ⟨v, hv, rfl⟩
      obtain ⟨hv, he⟩ := List.mem_filter.1 hv
      have hv := List.mem_range.1 hv
      exact ⟨rgI ps v, List.mem_filter.2 ⟨List.mem_range.2 (rgI_lt hv), he⟩, by rw [rgN_at (rgI_lt hv), rgI_inv hv]⟩
def earsV (ps : List Pt) : List Int := if clipB ps = true then earsL ps else []
theorem earsV_len (ps : List Pt) : (earsV ps).length ≤ 1000 := by
  unfold earsV
  split
  · rename_i h
    have := (simB_parts (clipB_sim h)).2.2.1
    have := earsTo_len ps ps.length
    unfold earsL; omega
  · exact Nat.zero_le _
theorem ring_is (ps : List Pt) : rgL ps = zI (rgN ps) := (zI_rgN ps).symm
set_option maxRecDepth 20000 in
set_option maxHeartbeats 2000000 in
theorem iEars_any (ps : List Pt) (A : Option Addr) (n c : Nat) (w : World) (hn : ps.length = n) (hm : n ≤ 2000000) (hA : Plain A n) (hs : PtsAt w w.heap.size A ps) :
    Calls Tryz.prog 11 #[.slice A n c] w fun e w' => ∃ A' n', e = .returned (.slice A' n' n') ∧ (earsV ps).length = n' ∧ n' ≤ 20 ∧ IRow w' w.heap.size A' (earsV ps) ∧ ∃ x, w' = ext w x := by
  have HC := hide (clippable_any ps A n c w hn hm hA hs)
  by_cases hok : clipB ps = true
  · rw [hok] at HC
    have HV : Hid (earsV ps = earsL ps) := hide (if_pos hok)
    have hsim := clipB_sim hok
    obtain ⟨hib, h3, h20, _, hnd⟩ := simB_parts hsim
    have CT := hide (fun (W : World) (hb : Below w.heap.size w W) => counter_any ps A n c W hn (by omega) (by omega) hib (hs.to hb))
    have EA := hide (fun (k : Nat) (Z : Option Addr) (d : Nat) (W : World) (hb : Below w.heap.size w W) (hk : k < n) (hz : IntsAt W W.heap.size Z (zI (rgN ps))) => earAt_any ps (rgN ps) k A Z n c n d W hn (by rw [rgN_len, hn]) hk (by omega) (by omega) (fun j hj => by rw [← hn]; exact rgN_lt (gn_mem (by rw [rgN_len]; omega))) hib (hs.to hb) hz)
    have RL : Hid ((zI (rgN ps)).length = n) := hide (by rw [zI_len, rgN_len, hn])
    have OL := hide (earO_len ps)
    have OS := hide (earO_sort ps)
    rw [hn] at OS
    have k20 : n ≤ 20 := by omega
    have k3 : 3 ≤ n := by omega
    rw [HV.out]
    clear hok hn hs hib h3 h20 hnd hsim HV
    go_enter Tryz.func11, Tryz.ntmps11
    go_wp2_with fail
    refine HC.out.mono ?_
    rintro e w' ⟨rfl, hw'⟩; have hzy1 := ext_sz hw'; obtain ⟨y1, rfl⟩ := hw'; (try simp at hzy1)
    go_wp2_with fail
    refine (CT.out _ (by (repeat' (first | (with_reducible exact Below.refl _ _) | (with_reducible assumption) | (with_reducible refine below_ext _ ?_ ?_) | (with_reducible refine Below.alloc ?_ ?_ _) | (with_reducible refine Below.drew ?_) | (with_reducible refine below_drewN ?_ _) | (with_reducible refine le_drewN _ ?_) | (with_reducible refine Below.setCell ?_ ?_ _) | (with_reducible exact Nat.le_refl _) | (with_reducible refine le_ext _ ?_) | (with_reducible refine le_alloc _ ?_) | (with_reducible refine le_setCell _ _ ?_) | (with_reducible refine le_drew ?_) | omega | (simp; done) | (simp; omega))))).mono ?_
    rintro e w2 ⟨v2, rfl, own2, hx2⟩
    obtain ⟨A2, n2, c2, rfl⟩ := own_slice own2
    rw [ring_is] at own2
    obtain ⟨l2, q2, q2b, I2⟩ := own2.ints
    have B2 := ext_bel hx2
    have e2 : n2 = n := by rw [← l2]; exact RL.out
    subst e2
    have I2h := hide I2
    have B2h := hide ((show Below w.heap.size w (ext w y1) from (by (repeat' (first | (with_reducible exact Below.refl _ _) | (with_reducible assumption) | (with_reducible refine below_ext _ ?_ ?_) | (with_reducible refine Below.alloc ?_ ?_ _) | (with_reducible refine Below.drew ?_) | (with_reducible refine below_drewN ?_ _) | (with_reducible refine le_drewN _ ?_) | (with_reducible refine Below.setCell ?_ ?_ _) | (with_reducible exact Nat.le_refl _) | (with_reducible refine le_ext _ ?_) | (with_reducible refine le_alloc _ ?_) | (with_reducible refine le_setCell _ _ ?_) | (with_reducible refine le_drew ?_) | omega | (simp; done) | (simp; omega))))).trans (B2.mono (by omega)))
    have s2 := B2h.out.size
    unfold maxLen at q2b
    clear own2 hx2 B2 I2 l2
    go_wp2_with fail
    go_loopw [4, 5, 6, 7, 8, 17, 22, 27, 28] (fun u4 _ _ _ _ u17 _ _ _ wr => ∃ k : Nat, k ≤ n2 ∧ u17 = .int .i64 k ∧ Own wr w2.heap.size u4 (earO ps k) ∧ Below w2.heap.size w2 wr) (fun _ _ _ _ _ u17 _ _ _ _ => n2 - (intOf u17).toNat)
    case atStart => exact ⟨0, Nat.zero_le _, rfl, Own.empty w2 _ (Nat.le_refl _), (by (repeat' (first | (with_reducible exact Below.refl _ _) | (with_reducible assumption) | (with_reducible refine below_ext _ ?_ ?_) | (with_reducible refine Below.alloc ?_ ?_ _) | (with_reducible refine Below.drew ?_) | (with_reducible refine below_drewN ?_ _) | (with_reducible refine le_drewN _ ?_) | (with_reducible refine Below.setCell ?_ ?_ _) | (with_reducible exact Nat.le_refl _) | (with_reducible refine le_ext _ ?_) | (with_reducible refine le_alloc _ ?_) | (with_reducible refine le_setCell _ _ ?_) | (with_reducible refine le_drew ?_) | omega | (simp; done) | (simp; omega))))⟩
    case round =>
      obtain ⟨k, hk, rfl, hown, hbel⟩ := hrel
      obtain ⟨Ak, nk, ck, rfl⟩ := own_slice hown
      have hsz := hbel.size
      have OWN := hide hown
      clear hown
      have hal : (earO ps k).length ≤ 2000000 := by have := OL.out k; omega
      by_cases hlt : k < n2
      · have EK := hide (fun (W : World) (hb : Below w2.heap.size w2 W) => EA.out k A2 c2 W (B2h.out.trans (hb.mono s2)) hlt (I2h.out.to hb))
        obtain ⟨b2, o2, rfl, hb2, hc2⟩ := I2h.out (by rw [RL.out]; omega)
        have g0 := (hbel.cell (p := ⟨b2, o2 + k, none⟩) hb2).trans (hc2 k (by rw [RL.out]; omega))
        rw [gi_zI] at g0
        have q3 : (0 : Int) ≤ (k : Int) := by omega
        have q4 : (k : Int) < (n2 : Int) := by omega
        clear hc2
        by_cases he : earB ps (rgN ps) k = true
        · have NX := hide (earO_yes he)
          rw [he] at EK
          clear he
          generalize gn (rgN ps) k = G at *
          go_wp2_with fail
          refine (EK.out _ (by (repeat' (first | (with_reducible exact Below.refl _ _) | (with_reducible assumption) | (with_reducible refine below_ext _ ?_ ?_) | (with_reducible refine Below.alloc ?_ ?_ _) | (with_reducible refine Below.drew ?_) | (with_reducible refine below_drewN ?_ _) | (with_reducible refine le_drewN _ ?_) | (with_reducible refine Below.setCell ?_ ?_ _) | (with_reducible exact Nat.le_refl _) | (with_reducible refine le_ext _ ?_) | (with_reducible refine le_alloc _ ?_) | (with_reducible refine le_setCell _ _ ?_) | (with_reducible refine le_drew ?_) | omega | (simp; done) | (simp; omega))))).mono ?_
          rintro e w' ⟨rfl, hw'⟩; have hzy3 := ext_sz hw'; obtain ⟨y3, rfl⟩ := hw'; (try simp at hzy3)
          go_wp2_with (at_builtin; refine app_one rfl _ _ rfl w2.heap.size (.slice Ak nk ck) (earO ps k) rfl (OWN.out.below (by (repeat' (first | (with_reducible exact Below.refl _ _) | (with_reducible assumption) | (with_reducible refine below_ext _ ?_ ?_) | (with_reducible refine Below.alloc ?_ ?_ _) | (with_reducible refine Below.drew ?_) | (with_reducible refine below_drewN ?_ _) | (with_reducible refine le_drewN _ ?_) | (with_reducible refine Below.setCell ?_ ?_ _) | (with_reducible exact Nat.le_refl _) | (with_reducible refine le_ext _ ?_) | (with_reducible refine le_alloc _ ?_) | (with_reducible refine le_setCell _ _ ?_) | (with_reducible refine le_drew ?_) | omega | (simp; done) | (simp; omega))))) (G : Int) _ _ rfl (by simp [go_sem]) hal (by simp; omega) ?_; intro v' w' hown' hb' hat hgr; obtain ⟨A', n', c', rfl⟩ := own_slice hown'; have OWN' := hide hown'; clear hown' hat hgr)
          exact ⟨⟨k + 1, by omega, by go_num, by rw [NX.out]; exact OWN'.out, Below.trans (Below.trans hbel (by (repeat' (first | (with_reducible exact Below.refl _ _) | (with_reducible assumption) | (with_reducible refine below_ext _ ?_ ?_) | (with_reducible refine Below.alloc ?_ ?_ _) | (with_reducible refine Below.drew ?_) | (with_reducible refine below_drewN ?_ _) | (with_reducible refine le_drewN _ ?_) | (with_reducible refine Below.setCell ?_ ?_ _) | (with_reducible exact Nat.le_refl _) | (with_reducible refine le_ext _ ?_) | (with_reducible refine le_alloc _ ?_) | (with_reducible refine le_setCell _ _ ?_) | (with_reducible refine le_drew ?_) | omega | (simp; done) | (simp; omega))))) hb'⟩, by simp [intOf]; omega⟩
        · have he := eq_false_of_ne_true he
          have NX := hide (earO_no he)
          rw [he] at EK
          clear he
          generalize gn (rgN ps) k = G at *
          go_wp2_with fail
          refine (EK.out _ (by (repeat' (first | (with_reducible exact Below.refl _ _) | (with_reducible assumption) | (with_reducible refine below_ext _ ?_ ?_) | (with_reducible refine Below.alloc ?_ ?_ _) | (with_reducible refine Below.drew ?_) | (with_reducible refine below_drewN ?_ _) | (with_reducible refine le_drewN _ ?_) | (with_reducible refine Below.setCell ?_ ?_ _) | (with_reducible exact Nat.le_refl _) | (with_reducible refine le_ext _ ?_) | (with_reducible refine le_alloc _ ?_) | (with_reducible refine le_setCell _ _ ?_) | (with_reducible refine le_drew ?_) | omega | (simp; done) | (simp; omega))))).mono ?_
          rintro e w' ⟨rfl, hw'⟩; have hzy3 := ext_sz hw'; obtain ⟨y3, rfl⟩ := hw'; (try simp at hzy3)
          go_wp2_with fail
          exact ⟨⟨k + 1, by omega, by go_num, by rw [NX.out]; exact OWN.out.below (by (repeat' (first | (with_reducible exact Below.refl _ _) | (with_reducible assumption) | (with_reducible refine below_ext _ ?_ ?_) | (with_reducible refine Below.alloc ?_ ?_ _) | (with_reducible refine Below.drew ?_) | (with_reducible refine below_drewN ?_ _) | (with_reducible refine le_drewN _ ?_) | (with_reducible refine Below.setCell ?_ ?_ _) | (with_reducible exact Nat.le_refl _) | (with_reducible refine le_ext _ ?_) | (with_reducible refine le_alloc _ ?_) | (with_reducible refine le_setCell _ _ ?_) | (with_reducible refine le_drew ?_) | omega | (simp; done) | (simp; omega)))), hbel.trans (by (repeat' (first | (with_reducible exact Below.refl _ _) | (with_reducible assumption) | (with_reducible refine below_ext _ ?_ ?_) | (with_reducible refine Below.alloc ?_ ?_ _) | (with_reducible refine Below.drew ?_) | (with_reducible refine below_drewN ?_ _) | (with_reducible refine le_drewN _ ?_) | (with_reducible refine Below.setCell ?_ ?_ _) | (with_reducible exact Nat.le_refl _) | (with_reducible refine le_ext _ ?_) | (with_reducible refine le_alloc _ ?_) | (with_reducible refine le_setCell _ _ ?_) | (with_reducible refine le_drew ?_) | omega | (simp; done) | (simp; omega))))⟩, by simp [intOf]; omega⟩
      · have ek : k = n2 := by omega
        subst ek
        have l5 := OWN.out.ints
        have nk20 : nk ≤ 20 := by have := OL.out k; have := l5.1; omega
        have ST := hide (sortN_any (earO ps k) w2.heap.size Ak nk ck wr (by omega) OWN.out hsz)
        rw [OS.out] at ST
        clear l5 OWN
        go_wp2_with fail
        refine ST.out.mono ?_
        rintro e w5 ⟨rfl, own5, B5⟩
        obtain ⟨l5, R5⟩ := own5.irow
        have i5 := own5.ints
        have f5 := own5.form
        have CL := hide (clipN_any Ak nk ck w5 i5.2.1 (by have := i5.2.2.1; unfold maxLen at this; omega) (fun h0 hh => by have := f5.1 hh; omega))
        have R5h := hide R5
        have L5h := hide l5
        have B5h := hide B5
        clear own5 i5 f5 l5 R5 B5
        go_wp2_with fail
        refine CL.out.mono ?_
        rintro e w6 ⟨rfl, rfl⟩
        go_wp2_with fail
        go_ret
        exact ⟨_, _, rfl, L5h.out, by omega, R5h.out.more s2, ext_mk (B2h.out.trans ((hbel.trans B5h.out).mono s2))⟩
  · have hok := eq_false_of_ne_true hok
    rw [hok] at HC
    have HV : Hid (earsV ps = []) := hide (if_neg (by rw [hok]; decide))
    rw [HV.out]
    clear hok hs hn HV
    go_enter Tryz.func11, Tryz.ntmps11
    go_wp2_with fail
    refine HC.out.mono ?_
    rintro e w' ⟨rfl, hw'⟩; have hzy1 := ext_sz hw'; obtain ⟨y1, rfl⟩ := hw'; (try simp at hzy1)
    go_wp2_with fail
    go_ret
    exact ⟨_, _, rfl, rfl, by omega, IRow.nil _ _ _, (ext_mk (by (repeat' (first | (with_reducible exact Below.refl _ _) | (with_reducible assumption) | (with_reducible refine below_ext _ ?_ ?_) | (with_reducible refine Below.alloc ?_ ?_ _) | (with_reducible refine Below.drew ?_) | (with_reducible refine below_drewN ?_ _) | (with_reducible refine le_drewN _ ?_) | (with_reducible refine Below.setCell ?_ ?_ _) | (with_reducible exact Nat.le_refl _) | (with_reducible refine le_ext _ ?_) | (with_reducible refine le_alloc _ ?_) | (with_reducible refine le_setCell _ _ ?_) | (with_reducible refine le_drew ?_) | omega | (simp; done) | (simp; omega)))))⟩
set_option maxRecDepth 20000 in
set_option maxHeartbeats 2000000 in
theorem sEars_any (ps : List Pt) (A : Option Addr) (n c : Nat) (w : World) (hn : ps.length = n) (hm : n ≤ 2000000) (hs : PtsAt w w.heap.size A ps) :
    Calls Tryz.prog 13 #[.slice A n c] w fun e w' => ∃ v, e = .returned v ∧ Own w' w.heap.size v (earsV ps) ∧ ∃ x, w' = ext w x := by
  have HC := hide (validBorder_any ps A n c)
  by_cases hok : clipB ps = true
  · have HC := hide (fun (W : World) (hb : Below w.heap.size w W) => HC.out W hn hm (hs.to hb))
    rw [hok] at HC
    have HV : Hid (earsV ps = earsL ps) := hide (if_pos hok)
    have hsim := clipB_sim hok
    obtain ⟨hib, h3, h20, _, hnd⟩ := simB_parts hsim
    have hib3 : ∀ p ∈ ps, (-1000 ≤ p.x ∧ p.x ≤ 1000) ∧ -1000 ≤ p.y ∧ p.y ≤ 1000 := by
      have hl := simB_listOk hsim
      unfold listOk at hl
      rw [Bool.and_eq_true] at hl
      intro p hp
      obtain ⟨i, hi, rfl⟩ := gp_of_mem hp
      have := allOk_at hl.2 hi
      exact ⟨⟨this.1, this.2.1⟩, this.2.2.1, this.2.2.2⟩
    have RO := hide (fun (W : World) (hb : Below w.heap.size w W) => ringOf_any ps A n c W hn (by omega) hib3 (hs.to hb))
    have EA := hide (fun (k : Nat) (Z : Option Addr) (d : Nat) (W : World) (hb : Below w.heap.size w W) (hk : k < n) (hz : IntsAt W W.heap.size Z (zI (rgN ps))) => isEar_any ps (rgN ps) k A Z n c n d W hn (by rw [rgN_len, hn]) hk (by omega) (by omega) (fun j hj => by rw [← hn]; exact rgN_lt (gn_mem (by rw [rgN_len]; omega))) hnd hib (hs.to hb) hz)
    have RL : Hid ((zI (rgN ps)).length = n) := hide (by rw [zI_len, rgN_len, hn])
    have OL := hide (earsTo_len ps)
    have RG : Hid (∀ i v, i < n → v < n → (gn (rgN ps) i = v ↔ i = rgI ps v)) := hide (fun i v hi hv => by
      rw [rgN_at (by omega)]
      constructor
      · intro e; rw [← e, rgI_inv (by omega)]
      · intro e; rw [e, rgI_inv (by omega)])
    have RIL : Hid (∀ v, v < n → rgI ps v < n) := hide (fun v hv => by have := rgI_lt (ps := ps) (i := v) (by omega); omega)
    have EVD : Hid (∀ v, earV ps v = earB ps (rgN ps) (rgI ps v)) := hide (fun v => rfl)
    have EL : Hid (earsTo ps n = earsL ps) := hide (by unfold earsL; rw [hn])
    have YES := hide (fun v => earsTo_yes (ps := ps) (v := v))
    have NO := hide (fun v => earsTo_no (ps := ps) (v := v))
    have k20 : n ≤ 20 := by omega
    have k3 : 3 ≤ n := by omega
    rw [HV.out]
    clear hok hn hs hib h3 h20 hnd hsim HV hib3
    go_enter Tryz.func13, Tryz.ntmps13
    go_wp2_with fail
    refine (HC.out _ (by (repeat' (first | (with_reducible exact Below.refl _ _) | (with_reducible assumption) | (with_reducible refine below_ext _ ?_ ?_) | (with_reducible refine Below.alloc ?_ ?_ _) | (with_reducible refine Below.drew ?_) | (with_reducible refine below_drewN ?_ _) | (with_reducible refine le_drewN _ ?_) | (with_reducible refine Below.setCell ?_ ?_ _) | (with_reducible exact Nat.le_refl _) | (with_reducible refine le_ext _ ?_) | (with_reducible refine le_alloc _ ?_) | (with_reducible refine le_setCell _ _ ?_) | (with_reducible refine le_drew ?_) | omega | (simp; done) | (simp; omega))))).mono ?_
    rintro e w' ⟨rfl, hw'⟩; have hzy1 := ext_sz hw'; obtain ⟨y1, rfl⟩ := hw'; (try simp at hzy1)
    go_wp2_with fail
    refine (RO.out _ (by (repeat' (first | (with_reducible exact Below.refl _ _) | (with_reducible assumption) | (with_reducible refine below_ext _ ?_ ?_) | (with_reducible refine Below.alloc ?_ ?_ _) | (with_reducible refine Below.drew ?_) | (with_reducible refine below_drewN ?_ _) | (with_reducible refine le_drewN _ ?_) | (with_reducible refine Below.setCell ?_ ?_ _) | (with_reducible exact Nat.le_refl _) | (with_reducible refine le_ext _ ?_) | (with_reducible refine le_alloc _ ?_) | (with_reducible refine le_setCell _ _ ?_) | (with_reducible refine le_drew ?_) | omega | (simp; done) | (simp; omega))))).mono ?_
    rintro e w2 ⟨v2, rfl, own2, hx2⟩
    obtain ⟨A2, n2, c2, rfl⟩ := own_slice own2
    rw [ring_is] at own2
    obtain ⟨l2, q2, q2b, I2⟩ := own2.ints
    have B2 := ext_bel hx2
    have e2 : n2 = n := by rw [← l2]; exact RL.out
    subst e2
    have I2h := hide I2
    have G2 : Hid (∀ k, (Value.slice A2 n2 c2).ownBlock = some k → w.heap.size + 1 ≤ k) := hide (fun k hk => Nat.le_trans (le_ext _ (by simp)) (own2.lt k hk))
    have O2 : Hid (Own w2 w.heap.size (.slice (some ⟨w.heap.size, 0, none⟩) 0 0) []) := hide ((Own.empty w _ (Nat.le_refl _)).below ((show Below (w.alloc (.cells #[] 3)).heap.size (w.alloc (.cells #[] 3)) _ from (by (repeat' (first | (with_reducible exact Below.refl _ _) | (with_reducible assumption) | (with_reducible refine below_ext _ ?_ ?_) | (with_reducible refine Below.alloc ?_ ?_ _) | (with_reducible refine Below.drew ?_) | (with_reducible refine below_drewN ?_ _) | (with_reducible refine le_drewN _ ?_) | (with_reducible refine Below.setCell ?_ ?_ _) | (with_reducible exact Nat.le_refl _) | (with_reducible refine le_ext _ ?_) | (with_reducible refine le_alloc _ ?_) | (with_reducible refine le_setCell _ _ ?_) | (with_reducible refine le_drew ?_) | omega | (simp; done) | (simp; omega))))).trans (B2.mono (le_ext _ (Nat.le_refl _)))))
    have B2h := hide ((show Below w.heap.size w (ext (w.alloc (.cells #[] 3)) y1) from (by (repeat' (first | (with_reducible exact Below.refl _ _) | (with_reducible assumption) | (with_reducible refine below_ext _ ?_ ?_) | (with_reducible refine Below.alloc ?_ ?_ _) | (with_reducible refine Below.drew ?_) | (with_reducible refine below_drewN ?_ _) | (with_reducible refine le_drewN _ ?_) | (with_reducible refine Below.setCell ?_ ?_ _) | (with_reducible exact Nat.le_refl _) | (with_reducible refine le_ext _ ?_) | (with_reducible refine le_alloc _ ?_) | (with_reducible refine le_setCell _ _ ?_) | (with_reducible refine le_drew ?_) | omega | (simp; done) | (simp; omega))))).trans (B2.mono (le_ext _ (by simp))))
    have s2 := B2h.out.size
    unfold maxLen at q2b
    clear own2 hx2 B2 I2 l2
    go_wp2_with fail
    obtain ⟨b2, o2, rfl, hb2, hc2⟩ := I2h.out (by rw [RL.out]; omega)
    have CEL : Hid (∀ j, j < n2 → w2.cell? ⟨b2, o2 + j, none⟩ = some (.int .i64 (gn (rgN ps) j))) := hide (fun j hj => by have := hc2 j (by rw [RL.out]; omega); rw [gi_zI] at this; exact this)
    have b2g := G2.out b2 rfl
    clear hc2
    go_loopw [3, 5, 6] (fun u3 u5 _ wr => ∃ v : Nat, v ≤ n2 ∧ u5 = .int .i64 v ∧ Own wr w.heap.size u3 (earsTo ps v) ∧ Hid (∀ b, u3.ownBlock = some b → b ≠ b2) ∧ Hid (∀ j, j < n2 → wr.cell? ⟨b2, o2 + j, none⟩ = some (.int .i64 (gn (rgN ps) j))) ∧ b2 < wr.heap.size ∧ Below w.heap.size w wr) (fun _ u5 _ _ => n2 - (intOf u5).toNat)
    case atStart => exact ⟨0, Nat.zero_le _, rfl, O2.out, hide (fun b hb => by injection hb with hb; have hb : w.heap.size = b := hb; omega), CEL, hb2, B2h.out⟩
    case round =>
      obtain ⟨v, hv, rfl, hown, NB, CL, lb2, hbel⟩ := hrel
      by_cases hlt : v < n2
      · have hsz := hbel.size
        go_wp2_with fail
        go_loopw [3, 6] (fun u3 u6 wr => ∃ i : Nat, i ≤ n2 ∧ u6 = .int .i64 i ∧ Own wr w.heap.size u3 (if rgI ps v < i then earsTo ps (v + 1) else earsTo ps v) ∧ Hid (∀ b, u3.ownBlock = some b → b ≠ b2) ∧ Hid (∀ j, j < n2 → wr.cell? ⟨b2, o2 + j, none⟩ = some (.int .i64 (gn (rgN ps) j))) ∧ b2 < wr.heap.size ∧ Below w.heap.size w wr) (fun _ u6 _ => n2 - (intOf u6).toNat)
        case atStart => exact ⟨0, Nat.zero_le _, rfl, by rw [if_neg (by omega)]; exact hown, NB, CL, lb2, hbel⟩
        case round =>
          obtain ⟨i, hi, rfl, hown2, NB2, CL2, lb3, hbel2⟩ := hrel
          obtain ⟨Ak, nk, ck, rfl⟩ := own_slice hown2
          have hsz2 := hbel2.size
          have OWN := hide hown2
          clear hown2
          by_cases hlt2 : i < n2
          · have g0 := CL2.out i hlt2
            have q3 : (0 : Int) ≤ (i : Int) := by omega
            have q4 : (i : Int) < (n2 : Int) := by omega
            have CLF : Hid (∀ W : World, Below wr.heap.size wr W → ∀ j, j < n2 → W.cell? ⟨b2, o2 + j, none⟩ = some (.int .i64 (gn (rgN ps) j))) := hide (fun W hb j hj => (hb.cell (p := ⟨b2, o2 + j, none⟩) lb3).trans (CL2.out j hj))
            have EK := hide (fun (W : World) (hb : Below wr.heap.size wr W) => EA.out i (some ⟨b2, o2, none⟩) c2 W (hbel2.trans (hb.mono hsz2)) hlt2 (fun _ => ⟨b2, o2, rfl, Nat.lt_of_lt_of_le lb3 hb.size, fun j hj => by rw [gi_zI]; exact CLF.out W hb j (by have := RL.out; omega)⟩))
            by_cases hgv : gn (rgN ps) i = v
            · have ei := (RG.out i v hlt2 hlt).1 hgv
              have HE : Hid (earB ps (rgN ps) i = earV ps v) := hide (by rw [EVD.out, ei])
              rw [HE.out] at EK
              have d1 : ((gn (rgN ps) i : Int) == (v : Int)) = true := by rw [hgv]; simp
              have M0 : Hid ((if rgI ps v < i then earsTo ps (v + 1) else earsTo ps v) = earsTo ps v) := hide (if_neg (by omega))
              have M1 : Hid ((if rgI ps v < i + 1 then earsTo ps (v + 1) else earsTo ps v) = earsTo ps (v + 1)) := hide (if_pos (by omega))
              rw [M0.out] at OWN
              have hal : (earsTo ps v).length ≤ 2000000 := by have := OL.out v; omega
              clear hgv ei
              generalize gn (rgN ps) i = G at *
              by_cases he : earV ps v = true
              · have NX := hide (YES.out v he)
                rw [he] at EK
                clear he
                go_wp2_with fail
                refine (EK.out _ (by (repeat' (first | (with_reducible exact Below.refl _ _) | (with_reducible assumption) | (with_reducible refine below_ext _ ?_ ?_) | (with_reducible refine Below.alloc ?_ ?_ _) | (with_reducible refine Below.drew ?_) | (with_reducible refine below_drewN ?_ _) | (with_reducible refine le_drewN _ ?_) | (with_reducible refine Below.setCell ?_ ?_ _) | (with_reducible exact Nat.le_refl _) | (with_reducible refine le_ext _ ?_) | (with_reducible refine le_alloc _ ?_) | (with_reducible refine le_setCell _ _ ?_) | (with_reducible refine le_drew ?_) | omega | (simp; done) | (simp; omega))))).mono ?_
                rintro e w' ⟨rfl, hw'⟩; have hzy3 := ext_sz hw'; obtain ⟨y3, rfl⟩ := hw'; (try simp at hzy3)
                go_wp2_with (at_builtin; refine app_one rfl _ _ rfl w.heap.size (.slice Ak nk ck) (earsTo ps v) rfl (OWN.out.below (by (repeat' (first | (with_reducible exact Below.refl _ _) | (with_reducible assumption) | (with_reducible refine below_ext _ ?_ ?_) | (with_reducible refine Below.alloc ?_ ?_ _) | (with_reducible refine Below.drew ?_) | (with_reducible refine below_drewN ?_ _) | (with_reducible refine le_drewN _ ?_) | (with_reducible refine Below.setCell ?_ ?_ _) | (with_reducible exact Nat.le_refl _) | (with_reducible refine le_ext _ ?_) | (with_reducible refine le_alloc _ ?_) | (with_reducible refine le_setCell _ _ ?_) | (with_reducible refine le_drew ?_) | omega | (simp; done) | (simp; omega))))) (v : Int) _ _ rfl (by simp [go_sem]) hal (by simp; omega) ?_; intro v' w' hown' hb' hat hgr; obtain ⟨A', n', c', rfl⟩ := own_slice hown'; have OWN' := hide hown'; have HAT := hide hat; have HGR := hide hgr; have HB' := hide hb'; clear hown' hat hgr hb')
                refine ⟨⟨i + 1, by omega, by go_num, by rw [M1.out, NX.out]; exact OWN'.out, hide (fun b hb => ?_), hide (fun j hj => ?_), ?_, Below.trans (Below.trans hbel2 (by (repeat' (first | (with_reducible exact Below.refl _ _) | (with_reducible assumption) | (with_reducible refine below_ext _ ?_ ?_) | (with_reducible refine Below.alloc ?_ ?_ _) | (with_reducible refine Below.drew ?_) | (with_reducible refine below_drewN ?_ _) | (with_reducible refine le_drewN _ ?_) | (with_reducible refine Below.setCell ?_ ?_ _) | (with_reducible exact Nat.le_refl _) | (with_reducible refine le_ext _ ?_) | (with_reducible refine le_alloc _ ?_) | (with_reducible refine le_setCell _ _ ?_) | (with_reducible refine le_drew ?_) | omega | (simp; done) | (simp; omega))))) HB'.out⟩, by simp [intOf]; omega⟩
                · rcases HAT.out with h | h
                  · exact NB2.out b (by rw [← h]; exact hb)
                  · rw [h] at hb; injection hb with hb; simp at hb; omega
                · refine (World.cell?_of_block (HGR.out.block b2 (by simp; omega) (fun e => NB2.out b2 (by first | exact e | exact e.symm) rfl))).trans ?_
                  exact CLF.out _ (by (repeat' (first | (with_reducible exact Below.refl _ _) | (with_reducible assumption) | (with_reducible refine below_ext _ ?_ ?_) | (with_reducible refine Below.alloc ?_ ?_ _) | (with_reducible refine Below.drew ?_) | (with_reducible refine below_drewN ?_ _) | (with_reducible refine le_drewN _ ?_) | (with_reducible refine Below.setCell ?_ ?_ _) | (with_reducible exact Nat.le_refl _) | (with_reducible refine le_ext _ ?_) | (with_reducible refine le_alloc _ ?_) | (with_reducible refine le_setCell _ _ ?_) | (with_reducible refine le_drew ?_) | omega | (simp; done) | (simp; omega)))) j hj
                · have h1 := HGR.out.size
                  simp at h1
                  omega
              · have he := eq_false_of_ne_true he
                have NX := hide (NO.out v he)
                rw [he] at EK
                clear he
                go_wp2_with fail
                refine (EK.out _ (by (repeat' (first | (with_reducible exact Below.refl _ _) | (with_reducible assumption) | (with_reducible refine below_ext _ ?_ ?_) | (with_reducible refine Below.alloc ?_ ?_ _) | (with_reducible refine Below.drew ?_) | (with_reducible refine below_drewN ?_ _) | (with_reducible refine le_drewN _ ?_) | (with_reducible refine Below.setCell ?_ ?_ _) | (with_reducible exact Nat.le_refl _) | (with_reducible refine le_ext _ ?_) | (with_reducible refine le_alloc _ ?_) | (with_reducible refine le_setCell _ _ ?_) | (with_reducible refine le_drew ?_) | omega | (simp; done) | (simp; omega))))).mono ?_
                rintro e w' ⟨rfl, hw'⟩; have hzy3 := ext_sz hw'; obtain ⟨y3, rfl⟩ := hw'; (try simp at hzy3)
                go_wp2_with fail
                exact ⟨⟨i + 1, by omega, by go_num, by rw [M1.out, NX.out]; exact OWN.out.below (by (repeat' (first | (with_reducible exact Below.refl _ _) | (with_reducible assumption) | (with_reducible refine below_ext _ ?_ ?_) | (with_reducible refine Below.alloc ?_ ?_ _) | (with_reducible refine Below.drew ?_) | (with_reducible refine below_drewN ?_ _) | (with_reducible refine le_drewN _ ?_) | (with_reducible refine Below.setCell ?_ ?_ _) | (with_reducible exact Nat.le_refl _) | (with_reducible refine le_ext _ ?_) | (with_reducible refine le_alloc _ ?_) | (with_reducible refine le_setCell _ _ ?_) | (with_reducible refine le_drew ?_) | omega | (simp; done) | (simp; omega)))), NB2, hide (fun j hj => CLF.out _ (by (repeat' (first | (with_reducible exact Below.refl _ _) | (with_reducible assumption) | (with_reducible refine below_ext _ ?_ ?_) | (with_reducible refine Below.alloc ?_ ?_ _) | (with_reducible refine Below.drew ?_) | (with_reducible refine below_drewN ?_ _) | (with_reducible refine le_drewN _ ?_) | (with_reducible refine Below.setCell ?_ ?_ _) | (with_reducible exact Nat.le_refl _) | (with_reducible refine le_ext _ ?_) | (with_reducible refine le_alloc _ ?_) | (with_reducible refine le_setCell _ _ ?_) | (with_reducible refine le_drew ?_) | omega | (simp; done) | (simp; omega)))) j hj), by omega, hbel2.trans (by (repeat' (first | (with_reducible exact Below.refl _ _) | (with_reducible assumption) | (with_reducible refine below_ext _ ?_ ?_) | (with_reducible refine Below.alloc ?_ ?_ _) | (with_reducible refine Below.drew ?_) | (with_reducible refine below_drewN ?_ _) | (with_reducible refine le_drewN _ ?_) | (with_reducible refine Below.setCell ?_ ?_ _) | (with_reducible exact Nat.le_refl _) | (with_reducible refine le_ext _ ?_) | (with_reducible refine le_alloc _ ?_) | (with_reducible refine le_setCell _ _ ?_) | (with_reducible refine le_drew ?_) | omega | (simp; done) | (simp; omega))))⟩, by simp [intOf]; omega⟩
            · have d1 : ((gn (rgN ps) i : Int) == (v : Int)) = false := by rw [beq_eq_false_iff_ne]; omega
              have hne : rgI ps v ≠ i := fun e => hgv ((RG.out i v hlt2 hlt).2 e.symm)
              have MM : Hid ((if rgI ps v < i + 1 then earsTo ps (v + 1) else earsTo ps v) = if rgI ps v < i then earsTo ps (v + 1) else earsTo ps v) := hide (by
                by_cases h : rgI ps v < i
                · rw [if_pos h, if_pos (by omega)]
                · rw [if_neg h, if_neg (by omega)])
              clear hgv hne EK
              generalize gn (rgN ps) i = G at *
              go_wp2_with fail
              exact ⟨⟨i + 1, by omega, by go_num, by rw [MM.out]; exact OWN.out, NB2, CL2, lb3, hbel2⟩, by simp [intOf]; omega⟩
          · have ei : i = n2 := by omega
            have MM : Hid ((if rgI ps v < i then earsTo ps (v + 1) else earsTo ps v) = earsTo ps (v + 1)) := hide (if_pos (by have := RIL.out v hlt; omega))
            rw [MM.out] at OWN
            clear ei
            go_wp2_with fail
            exact ⟨⟨v + 1, by omega, by go_num, OWN.out, NB2, CL2, lb3, hbel2⟩, by simp [intOf]; omega⟩
      · have ev : v = n2 := by omega
        have OWN : Hid (Own wr w.heap.size _ (earsL ps)) := hide (by have h := hown; rw [ev, EL.out] at h; exact h)
        clear hown ev
        go_wp2_with fail
        go_ret
        exact ⟨_, rfl, OWN.out, ext_mk hbel⟩
  · have HC := hide (fun (W : World) (hb : Below w.heap.size w W) => HC.out W hn hm (hs.to hb))
    have hok := eq_false_of_ne_true hok
    rw [hok] at HC
    have HV : Hid (earsV ps = []) := hide (if_neg (by rw [hok]; decide))
    rw [HV.out]
    clear hok hs hn HV
    go_enter Tryz.func13, Tryz.ntmps13
    go_wp2_with fail
    refine (HC.out _ (by (repeat' (first | (with_reducible exact Below.refl _ _) | (with_reducible assumption) | (with_reducible refine below_ext _ ?_ ?_) | (with_reducible refine Below.alloc ?_ ?_ _) | (with_reducible refine Below.drew ?_) | (with_reducible refine below_drewN ?_ _) | (with_reducible refine le_drewN _ ?_) | (with_reducible refine Below.setCell ?_ ?_ _) | (with_reducible exact Nat.le_refl _) | (with_reducible refine le_ext _ ?_) | (with_reducible refine le_alloc _ ?_) | (with_reducible refine le_setCell _ _ ?_) | (with_reducible refine le_drew ?_) | omega | (simp; done) | (simp; omega))))).mono ?_
    rintro e w' ⟨rfl, hw'⟩; have hzy1 := ext_sz hw'; obtain ⟨y1, rfl⟩ := hw'; (try simp at hzy1)
    go_wp2_with fail
    go_ret
    exact ⟨_, rfl, Own.nil _ _, (ext_mk (by (repeat' (first | (with_reducible exact Below.refl _ _) | (with_reducible assumption) | (with_reducible refine below_ext _ ?_ ?_) | (with_reducible refine Below.alloc ?_ ?_ _) | (with_reducible refine Below.drew ?_) | (with_reducible refine below_drewN ?_ _) | (with_reducible refine le_drewN _ ?_) | (with_reducible refine Below.setCell ?_ ?_ _) | (with_reducible exact Nat.le_refl _) | (with_reducible refine le_ext _ ?_) | (with_reducible refine le_alloc _ ?_) | (with_reducible refine le_setCell _ _ ?_) | (with_reducible refine le_drew ?_) | omega | (simp; done) | (simp; omega)))))⟩
end Go.Proofs.YtkkmioffclpmfaaGreat
