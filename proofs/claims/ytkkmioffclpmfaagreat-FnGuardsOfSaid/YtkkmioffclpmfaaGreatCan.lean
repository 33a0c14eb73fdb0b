
import Derived.Test.YtkkmioffclpmfaaGreatRing
import Derived.Test.YtkkmioffclpmfaaGreatCanM
import Derived.Test.YtkkmioffclpmfaaGreatSorted
import Derived.Test.YtkkmioffclpmfaaGreatSimI
import Derived.Test.YtkkmioffclpmfaaGreatSimS
import Derived.Test.YtkkmioffclpmfaaGreatSHull
import Derived.Test.YtkkmioffclpmfaaGreatTri
import Derived.Test.YtkkmioffclpmfaaGreatSlay
import Derived.Test.YtkkmioffclpmfaaGreatSlayI
import Derived.Test.YtkkmioffclpmfaaGreatConv
import Derived.Shelf.SlicesE.Reverse
/- Plain: the program's canonical form is the reference's. -/
set_option linter.unusedVariables false
set_option linter.unusedSimpArgs false
namespace Go.Proofs.YtkkmioffclpmfaaGreat
open Go.RowKit

/-- The vertices in the order of the program's indices. -/
def ctP (ps : List Pt) : List Pt := (List.range ps.length).map fun i => gp ps (rgI ps i)
theorem ctP_len (ps : List Pt) : (ctP ps).length = ps.length := by simp [ctP]
theorem ctP_at {ps : List Pt} {i : Nat} (hi : i < ps.length) : gp (ctP ps) i = gp ps (rgI ps i) := by
  rw [gp_lt (by rw [ctP_len]; exact hi)]
  simp [ctP]
theorem ctP_eq (ps : List Pt) (h0 : 0 < ps.length) : ctP ps = if areaL ps < 0 then rotP ps.reverse (ps.length - 1) else ps := by
  refine gp_ext (by split <;> simp [ctP_len, rotP_len]) fun j hj => ?_
  rw [ctP_len] at hj
  rw [ctP_at hj]
  by_cases h : areaL ps < 0
  · rw [if_pos h, rotP_at (by simp; omega) (by simp; omega), List.length_reverse, rev_at (Nat.mod_lt _ (by omega))]
    unfold rgI
    rw [if_pos h]
    congr 1
    by_cases e : j = 0
    · subst e
      rw [Nat.sub_zero, Nat.mod_self, Nat.add_zero, Nat.mod_eq_of_lt (show ps.length - 1 < ps.length by omega)]; omega
    · rw [Nat.mod_eq_of_lt (show ps.length - j < ps.length by omega), show ps.length - 1 + j = j - 1 + ps.length by omega, Nat.add_mod_right, Nat.mod_eq_of_lt (show j - 1 < ps.length by omega)]; omega
  · rw [if_neg h]
    unfold rgI
    rw [if_neg h]
theorem ctP_mem {ps : List Pt} {q : Pt} : q ∈ ctP ps ↔ q ∈ ps := by
  by_cases h0 : 0 < ps.length
  · rw [ctP_eq ps h0]
    split
    · rw [rotP_mem, List.mem_reverse]
    · exact Iff.rfl
  · have : ps = [] := List.eq_nil_of_length_eq_zero (by omega)
    subst this; simp [ctP]
theorem can_ct {ps : List Pt} (hd : ps.Nodup) (h0 : 0 < ps.length) : canL ps = rotP (ctP ps) (minIx (ctP ps)) := by
  rw [ctP_eq ps h0]
  unfold canL
  by_cases h : areaL ps < 0
  · simp only [if_pos h]
    rw [rot_can ((List.reverse_perm ps).nodup_iff.2 hd) (by rw [List.length_reverse]; omega)]
  · simp only [if_neg h]
def lpt (ps : List Pt) : Pt := gp (sortP ps) 0
theorem lpt_min {ps : List Pt} (h0 : 0 < ps.length) : lpt ps ∈ ps ∧ ∀ q ∈ ps, q = lpt ps ∨ ltP (lpt ps) q := by
  obtain ⟨m, h1, h2, h3⟩ := asc_min (sortP_asc ps) (ne_sort (by intro e; rw [e] at h0; cases h0))
  have e : lpt ps = m := by
    unfold lpt
    cases h : sortP ps with
    | nil => rw [h] at h2; cases h2
    | cons a r => rw [h] at h2; injection h2
  rw [e]
  exact ⟨sortP_mem.1 h1, fun q hq => h3 q (sortP_mem.2 hq)⟩
theorem can_prog {ps : List Pt} (hd : ps.Nodup) (h0 : 0 < ps.length) :
    ∃ m, m < ps.length ∧ firstIdx (fun i => decide (gp ps (rgI ps i) = lpt ps)) ps.length = (m : Int) ∧ ∀ j, j < ps.length → gp (canL ps) j = gp ps (rgI ps ((m + j) % ps.length)) := by
  have hlq := ctP_len ps
  have hm : minIx (ctP ps) < ps.length := by have := minTo_lt (q := ctP ps) (by omega) (ctP ps).length (Nat.le_refl _); unfold minIx; omega
  have hdq : (ctP ps).Nodup := by
    rw [ctP_eq ps h0]; split
    · unfold rotP
      exact (List.Perm.nodup_iff (List.perm_append_comm.trans (by rw [List.take_append_drop]))).2 ((List.reverse_perm ps).nodup_iff.2 hd)
    · exact hd
  obtain ⟨l1, l2⟩ := lpt_min h0
  have eM : gp (ctP ps) (minIx (ctP ps)) = lpt ps := by
    rcases l2 _ (ctP_mem.1 (gp_mem (show minIx (ctP ps) < (ctP ps).length by omega))) with e | e
    · exact e
    · obtain ⟨j, hj, e2⟩ := gp_of_mem (ctP_mem.2 l1)
      rw [← e2] at e
      exact absurd e (minTo_le _ j hj)
  refine ⟨minIx (ctP ps), hm, firstIdx_at hm (decide_eq_true (by rw [← ctP_at hm]; exact eM)) fun j hj => decide_eq_false fun e => ?_, fun j hj => ?_⟩
  · rw [← ctP_at (by omega), ← eM] at e
    have := gp_inj hdq (by omega) (by omega) e
    omega
  · rw [can_ct hd h0, rotP_at (by omega) (by omega), hlq, ctP_at (Nat.mod_lt _ (by omega))]
theorem can_nil : canL [] = [] := rfl
def canO (ps : List Pt) : List Pt := if simB ps then canL ps else []
end Go.Proofs.YtkkmioffclpmfaaGreat
/- Canonical: the program's and the reference's. -/
set_option linter.unusedVariables false
set_option linter.unusedSimpArgs false
namespace Go.Proofs.YtkkmioffclpmfaaGreat
open Go.RowKit Go.Shelf Go.Sort Go.Lib

theorem revI_any (z0 : Int) (zs : List Int) (base g n c : Nat) (w : World) (hn : zs.length = n) (hm : n ≤ 1000) (hown : Own w base (.slice (some ⟨g, 0, none⟩) (n + 1) c) (z0 :: zs)) :
    Calls Tryz.prog 83 #[.slice (some ⟨g, 1, none⟩) n (c - 1)] w fun e w' => e = .returned (.tuple #[]) ∧ Own w' base (.slice (some ⟨g, 0, none⟩) (n + 1) c) (z0 :: zs.reverse) ∧ Below base w w' := by
  unfold Own at hown
  obtain ⟨hl, ⟨hv, _⟩ | ⟨g', cap, cur, hv, hg, hgg, hnc, hcm, hsz, htk⟩⟩ := hown
  · injection hv with hv; cases hv
  injection hv with h1 h2 h3
  injection h1 with h1
  injection h1 with h1
  subst h1 h3
  have hlen : (z0 :: zs).length = n + 1 := by rw [List.length_cons, hn]
  rw [hlen, Nat.mul_one] at htk
  rw [hlen] at hnc
  rw [Nat.mul_one] at hsz
  have hcell : ∀ j, j < n → cur[1 + j]? = some (.int .i64 (zs[j]!)) := fun j hj => by
    have : (cur.toList.take (n + 1))[1 + j]? = some (.int .i64 (zs[j]!)) := by
      rw [htk, List.getElem?_map, Nat.add_comm 1 j, List.getElem?_cons_succ, List.getElem?_eq_getElem (by omega), getElem!_pos zs j (by omega)]; rfl
    rw [List.getElem?_take, if_pos (by omega)] at this
    rw [← Array.getElem?_toList]; exact this
  have hH : Holds (Value.int .i64) w g 1 zs.toArray := fun j hj => by
    have hj' : j < n := by simpa [hn] using hj
    refine ⟨?_, heap_frozen hgg _⟩
    rw [heap_cell hgg, hcell j hj']
    congr 2
    simp [hn, hj']
  have hcon := AnyE.slices_Reverse Tryz.revInt (Value.int .i64) (fun _ => rfl) g 1 (c - 1) zs w hH (by omega)
  rw [hn] at hcon
  refine hcon.mono ?_
  rintro e w' ⟨rfl, q, rfl⟩
  have hc2 : (putRow (Value.int .i64) (Sort.ahead w q) g 1 zs.reverse.toArray).heap[g]? = some (.cells (putCells (Value.int .i64) 1 zs.reverse.toArray cur) 3 (0, 0)) := by
    show ((Sort.ahead w q).heap.modify g _)[g]? = _
    rw [Array.getElem?_modify, if_pos rfl]
    show Option.map _ (w.heap[g]?) = _
    rw [hgg]; rfl
  have hoth : ∀ k, k ≠ g → (putRow (Value.int .i64) (Sort.ahead w q) g 1 zs.reverse.toArray).heap[k]? = w.heap[k]? := fun k hk => by
    show ((Sort.ahead w q).heap.modify g _)[k]? = _
    rw [Array.getElem?_modify, if_neg (by omega)]; rfl
  have hs : (putRow (Value.int .i64) (Sort.ahead w q) g 1 zs.reverse.toArray).heap.size = w.heap.size := by
    show ((Sort.ahead w q).heap.modify g _).size = _
    rw [Array.size_modify]; rfl
  refine ⟨rfl, ⟨by simp [hn], .inr ⟨g, c, _, by simp [hn], hg, hc2, by simp [hn]; omega, hcm, by simp [putCells, hsz], ?_⟩⟩, ⟨rfl, rfl, rfl, by rw [hs]; exact Nat.le_refl _, fun k hk => hoth k (by omega)⟩⟩
  refine List.ext_getElem? fun k => ?_
  have hrl : (z0 :: zs.reverse).length = n + 1 := by simp [hn]
  rw [hrl, Nat.mul_one, List.getElem?_take, List.getElem?_map]
  by_cases hk : k < n + 1
  · rw [if_pos hk]
    unfold putCells
    rw [Array.getElem?_toList, Array.getElem?_mapIdx, Array.getElem?_eq_getElem (show k < cur.size by omega)]
    cases k with
    | zero =>
      have h0 : cur[0]? = some (.int .i64 z0) := by
        have : (cur.toList.take (n + 1))[0]? = some (.int .i64 z0) := by rw [htk]; rfl
        rw [List.getElem?_take, if_pos (by omega)] at this
        rw [← Array.getElem?_toList]; exact this
      rw [Array.getElem?_eq_getElem (show 0 < cur.size by omega)] at h0
      injection h0 with h0
      simp [h0]
    | succ j =>
      have hj : j < n := by omega
      simp [hn, hj, Nat.add_comm 1]
  · rw [if_neg hk, List.getElem?_eq_none (by omega)]; rfl
def idTo (k : Nat) : List Int := (List.range k).map fun i : Nat => ((i : Nat) : Int)
theorem idTo_len (k : Nat) : (idTo k).length = k := by simp [idTo]
theorem idTo_succ (k : Nat) : idTo (k + 1) = idTo k ++ [(k : Int)] := by unfold idTo; rw [List.range_succ, List.map_append]; rfl
theorem idTo_cons (k : Nat) : idTo (k + 1) = (0 : Int) :: (idTo k).map (· + 1) := by
  unfold idTo
  rw [List.range_succ_eq_map, List.map_cons, List.map_map, List.map_map]
  simp [Function.comp_def]
theorem rgL_pos {ps : List Pt} (h : 0 ≤ areaL ps) : rgL ps = idTo ps.length := by
  unfold rgL rgTo idTo rgI
  exact List.map_congr_left fun i _ => by rw [if_neg (by omega)]
theorem rgL_neg {ps : List Pt} {m : Nat} (h : areaL ps < 0) (hm : ps.length = m + 1) : rgL ps = (0 : Int) :: ((idTo m).map (· + 1)).reverse := by
  refine List.ext_getElem (by simp [rgL, rgTo_len, idTo_len, hm]) fun j h1 h2 => ?_
  have hj : j < m + 1 := by rw [← hm]; simpa [rgL, rgTo_len] using h1
  have e : (rgL ps)[j] = (rgI ps j : Int) := by rw [← gi_lt h1, rgL_at (by omega)]
  rw [e]
  unfold rgI
  rw [if_pos h, hm]
  cases j with
  | zero => simp
  | succ j =>
    rw [Nat.mod_eq_of_lt (by omega)]
    simp [idTo]
    omega
set_option maxRecDepth 20000 in
set_option maxHeartbeats 1000000 in
theorem counter_any (ps : List Pt) (A : Option Addr) (n c : Nat) (w : World) (hn : ps.length = n) (h1 : 3 ≤ n) (hm : n ≤ 1000) (hb : ∀ p ∈ ps, (-100000 ≤ p.x ∧ p.x ≤ 100000) ∧ -100000 ≤ p.y ∧ p.y ≤ 100000) (hs : PtsAt w w.heap.size A ps) :
    Calls Tryz.prog 40 #[.slice A n c] w fun e w' => ∃ v, e = .returned v ∧ Own w' w.heap.size v (rgL ps) ∧ ∃ x, w' = ext w x := by
  obtain ⟨i0, hi, hz0, hz1, hz2⟩ := info_parts intElt.inf
  have IP := hide (And.intro hi (And.intro hz0 (And.intro hz1 hz2)))
  clear hi hz0 hz1 hz2
  have mk1 : i0.bytes * n ≤ 281474976710656 := by rw [IP.out.2.2.2]; omega
  have mk2 : n ≤ maxLen := by unfold maxLen; omega
  have SA := hide (fun (W : World) (hbl : Below w.heap.size w W) => area_any ps A n c W hn hm hb (hs.to hbl))
  have RP := hide (rgL_pos (ps := ps))
  rw [hn] at RP
  obtain ⟨m, hmn⟩ : ∃ m, n = m + 1 := ⟨n - 1, by omega⟩
  have RN := hide (fun h => rgL_neg (ps := ps) (m := m) h (by omega))
  have ID := hide (idTo_succ)
  have IC : Hid (idTo n = (0 : Int) :: (idTo m).map (· + 1)) := hide (by rw [hmn]; exact idTo_cons m)
  have IL := hide (idTo_len)
  have MN : Hid (n = m + 1) := hide hmn
  clear hn hb hs hmn
  go_enter Tryz.func40, Tryz.ntmps40
  go_wp2_with (refine wpList_make_own _ rfl (.const (.int .i64 0)) (.tmp 6) 25 rfl w.heap.size 3 i0 _ 1 intElt.und IP.out.1 IP.out.2.1 IP.out.2.2.1 .i64 .i64 _ n rfl rfl rfl mk1 mk2 (Nat.le_refl _) ?_; intro w1 hown1 hgr1; have O1 := hide (show Own w1 w.heap.size _ [] from hown1); have B1 := hide ((Below.refl _ _).grown hgr1 (Nat.le_refl _) (fun k hk => by cases hk)); clear hown1 hgr1)
  go_loopw [3, 4, 10] (fun u3 _ u10 wr => ∃ k : Nat, k ≤ n ∧ u10 = .int .i64 k ∧ Own wr w.heap.size u3 (idTo k) ∧ Below w.heap.size w wr) (fun _ _ u10 _ => n - (intOf u10).toNat)
  case atStart => exact ⟨0, Nat.zero_le _, rfl, O1.out.below (by (repeat' (first | (with_reducible first | exact Below.refl _ _ | assumption | refine below_ext _ ?_ ?_ | refine Below.alloc ?_ ?_ _ | refine Below.drew ?_ | refine below_drewN ?_ _ | refine le_drewN _ ?_ | refine Below.setCell ?_ ?_ _ | exact Nat.le_refl _ | refine le_ext _ ?_ | refine le_alloc _ ?_ | refine le_setCell _ _ ?_ | refine le_drew ?_) | omega | (simp; done) | (simp; omega)))), Below.trans B1.out (by (repeat' (first | (with_reducible first | exact Below.refl _ _ | assumption | refine below_ext _ ?_ ?_ | refine Below.alloc ?_ ?_ _ | refine Below.drew ?_ | refine below_drewN ?_ _ | refine le_drewN _ ?_ | refine Below.setCell ?_ ?_ _ | exact Nat.le_refl _ | refine le_ext _ ?_ | refine le_alloc _ ?_ | refine le_setCell _ _ ?_ | refine le_drew ?_) | omega | (simp; done) | (simp; omega))))⟩
  case round =>
    obtain ⟨k, hk, rfl, hown, hbel⟩ := hrel
    obtain ⟨Ak, nk, ck, rfl⟩ := own_slice hown
    have hsz := hbel.size
    have OWN := hide hown
    clear hown
    have hal : (idTo k).length ≤ 2000000 := by rw [IL.out]; omega
    by_cases hlt : k < n
    · go_wp2_with (at_builtin; refine app_one rfl _ _ rfl w.heap.size (.slice Ak nk ck) (idTo k) rfl (OWN.out.below (by (repeat' (first | (with_reducible first | exact Below.refl _ _ | assumption | refine below_ext _ ?_ ?_ | refine Below.alloc ?_ ?_ _ | refine Below.drew ?_ | refine below_drewN ?_ _ | refine le_drewN _ ?_ | refine Below.setCell ?_ ?_ _ | exact Nat.le_refl _ | refine le_ext _ ?_ | refine le_alloc _ ?_ | refine le_setCell _ _ ?_ | refine le_drew ?_) | omega | (simp; done) | (simp; omega))))) (k : Int) _ _ rfl (by simp [go_sem]) hal (by simp; omega) ?_; intro v' w' hown' hb' hat hgr; obtain ⟨A', n', c', rfl⟩ := own_slice hown'; have OWN' := hide hown'; clear hown' hat hgr)
      exact ⟨⟨k + 1, by omega, by go_num, by rw [ID.out]; exact OWN'.out, Below.trans (Below.trans hbel (by (repeat' (first | (with_reducible first | exact Below.refl _ _ | assumption | refine below_ext _ ?_ ?_ | refine Below.alloc ?_ ?_ _ | refine Below.drew ?_ | refine below_drewN ?_ _ | refine le_drewN _ ?_ | refine Below.setCell ?_ ?_ _ | exact Nat.le_refl _ | refine le_ext _ ?_ | refine le_alloc _ ?_ | refine le_setCell _ _ ?_ | refine le_drew ?_) | omega | (simp; done) | (simp; omega))))) hb'⟩, by simp [intOf]; omega⟩
    · have ek : k = n := by omega
      subst ek
      go_wp2_with fail
      refine (SA.out _ (by (repeat' (first | (with_reducible first | exact Below.refl _ _ | assumption | refine below_ext _ ?_ ?_ | refine Below.alloc ?_ ?_ _ | refine Below.drew ?_ | refine below_drewN ?_ _ | refine le_drewN _ ?_ | refine Below.setCell ?_ ?_ _ | exact Nat.le_refl _ | refine le_ext _ ?_ | refine le_alloc _ ?_ | refine le_setCell _ _ ?_ | refine le_drew ?_) | omega | (simp; done) | (simp; omega))))).mono ?_
      rintro e w' ⟨rfl, hw'⟩; have hzy1 := ext_sz hw'; obtain ⟨y1, rfl⟩ := hw'; (try simp at hzy1)
      by_cases hneg : areaL ps < 0
      · have d1 : decide (areaL ps < 0) = true := decide_eq_true hneg
        have K := hide (RN.out hneg)
        have O2 : Hid (Own (ext wr y1) w.heap.size (.slice Ak nk ck) ((0 : Int) :: (idTo m).map (· + 1))) := hide (by rw [← IC.out]; exact OWN.out.below (by (repeat' (first | (with_reducible first | exact Below.refl _ _ | assumption | refine below_ext _ ?_ ?_ | refine Below.alloc ?_ ?_ _ | refine Below.drew ?_ | refine below_drewN ?_ _ | refine le_drewN _ ?_ | refine Below.setCell ?_ ?_ _ | exact Nat.le_refl _ | refine le_ext _ ?_ | refine le_alloc _ ?_ | refine le_setCell _ _ ?_ | refine le_drew ?_) | omega | (simp; done) | (simp; omega)))))
        have hl := O2.out.ints
        have hnk : nk = k := by have := hl.1; simp [idTo_len] at this; have := MN.out; omega
        obtain ⟨g, hA, hg, hgs, hfz, _⟩ := O2.out.head (by omega)
        have hck := hl.2.1
        have hcm := hl.2.2.1
        unfold maxLen at hcm
        subst hA
        subst hnk
        have RV : Hid (Calls Tryz.prog 83 #[.slice (some ⟨g, 1, none⟩) (nk - 1) (ck - 1)] (ext wr y1) fun e w' => e = .returned (.tuple #[]) ∧ Own w' w.heap.size (.slice (some ⟨g, 0, none⟩) nk ck) (0 :: ((idTo m).map (· + 1)).reverse) ∧ Below w.heap.size (ext wr y1) w') := hide (by
          have h := MN.out
          subst h
          exact revI_any 0 ((idTo m).map (· + 1)) w.heap.size g m ck (ext wr y1) (by simp [idTo_len]) (by omega) O2.out)
        have q1 : (1 : Int) ≤ (nk : Int) := by omega
        have q2 : (nk : Int) ≤ (ck : Int) := by omega
        have q0 : ¬ ck = 1 := by omega
        have HB := hide hbel
        clear hl hfz hneg OWN hgs hg MN O2 IC IP ID IL hcm hck RN B1 hsz hbel
        go_wp2_with fail
        refine RV.out.mono ?_
        rintro e w5 ⟨rfl, hown5, hb5⟩
        have O5 := hide hown5
        have B5 := hide hb5
        clear hown5 hb5
        go_wp2_with fail
        go_ret
        exact ⟨_, rfl, by rw [K.out]; exact O5.out, by have hsz := HB.out.size; exact ext_mk (Below.trans (Below.trans HB.out (by (repeat' (first | (with_reducible first | exact Below.refl _ _ | assumption | refine below_ext _ ?_ ?_ | refine Below.alloc ?_ ?_ _ | refine Below.drew ?_ | refine below_drewN ?_ _ | refine le_drewN _ ?_ | refine Below.setCell ?_ ?_ _ | exact Nat.le_refl _ | refine le_ext _ ?_ | refine le_alloc _ ?_ | refine le_setCell _ _ ?_ | refine le_drew ?_) | omega | (simp; done) | (simp; omega))))) B5.out)⟩
      · have d1 : decide (areaL ps < 0) = false := decide_eq_false hneg
        have K := hide (RP.out (by omega))
        clear hneg
        go_wp2_with fail
        go_ret
        exact ⟨_, rfl, by rw [K.out]; exact OWN.out.below (by (repeat' (first | (with_reducible first | exact Below.refl _ _ | assumption | refine below_ext _ ?_ ?_ | refine Below.alloc ?_ ?_ _ | refine Below.drew ?_ | refine below_drewN ?_ _ | refine le_drewN _ ?_ | refine Below.setCell ?_ ?_ _ | exact Nat.le_refl _ | refine le_ext _ ?_ | refine le_alloc _ ?_ | refine le_setCell _ _ ?_ | refine le_drew ?_) | omega | (simp; done) | (simp; omega)))), ext_mk (hbel.trans (by (repeat' (first | (with_reducible first | exact Below.refl _ _ | assumption | refine below_ext _ ?_ ?_ | refine Below.alloc ?_ ?_ _ | refine Below.drew ?_ | refine below_drewN ?_ _ | refine le_drewN _ ?_ | refine Below.setCell ?_ ?_ _ | exact Nat.le_refl _ | refine le_ext _ ?_ | refine le_alloc _ ?_ | refine le_setCell _ _ ?_ | refine le_drew ?_) | omega | (simp; done) | (simp; omega)))))⟩
set_option maxHeartbeats 400000 in
theorem IndexFuncI_any (g : Nat) (lb : Array Value) (p : Nat → Bool) (zs : List Int) (A : Option Addr) (n c : Nat) (w : World) (hn : zs.length = n) (hm : n ≤ 2000000) (eg : ∀ args w, (callFunc g args).run Tryz.prog w = .ok (.enter g args) w)
    (hs : IntsAt w w.heap.size A zs) (hg : ∀ (W : World) (i : Nat), Below w.heap.size w W → i < zs.length → Calls Tryz.prog g (#[.int .i64 (gi zs i)] ++ lb) W fun e w' => e = .returned (.bool (p i)) ∧ ∃ m, w' = ext W m) :
    Calls Tryz.prog 98 #[.slice A n c, .func (.func g) #[] lb] w fun e w' => e = .returned (.int .i64 (firstIdx p n)) ∧ ∃ m, w' = ext w m := by
  have HG := hide hg
  clear hg
  go_enter Tryz.func98, Tryz.ntmps98
  go_wp2
  go_loopw [8] (fun v8 wr => ∃ k : Nat, k ≤ n ∧ v8 = .int .i64 k ∧ Hid (∀ j, j < k → p j = false) ∧ ∃ x, wr = ext w x) (fun v8 _ => n - (intOf v8).toNat)
  case atStart => exact ⟨0, Nat.zero_le _, rfl, fun j hj => by omega, ext_same w⟩
  case round =>
    obtain ⟨k, hk, rfl, hp, x, rfl⟩ := hrel
    by_cases hlt : k < n
    · obtain ⟨b, o, rfl, hb, hc⟩ := hs (by omega)
      have hck := hc k (by omega)
      clear hc
      go_wp2_with (go_at_fn g; refine (HG.out _ k (ext_below w x) (by omega)).mono ?_; rintro e w' ⟨rfl, y, rfl⟩)
      case roundEnd =>
        have hpk : p k = false := by assumption
        exact ⟨⟨k + 1, by omega, by go_num, fun j hj => by rcases Nat.lt_succ_iff_lt_or_eq.1 hj with h | rfl; exact hp.out j h; exact hpk, (ext_mk (by (repeat' (first | (with_reducible first | exact Below.refl _ _ | assumption | refine below_ext _ ?_ ?_ | refine Below.alloc ?_ ?_ _ | refine Below.drew ?_ | refine below_drewN ?_ _ | refine le_drewN _ ?_ | refine Below.setCell ?_ ?_ _ | exact Nat.le_refl _ | refine le_ext _ ?_ | refine le_alloc _ ?_ | refine le_setCell _ _ ?_ | refine le_drew ?_) | omega | (simp; done) | (simp; omega)))))⟩, by simp [intOf]; omega⟩
      have hpk : p k = true := by assumption
      go_ret
      exact ⟨ret_int (firstIdx_at hlt hpk hp.out).symm, (ext_mk (by (repeat' (first | (with_reducible first | exact Below.refl _ _ | assumption | refine below_ext _ ?_ ?_ | refine Below.alloc ?_ ?_ _ | refine Below.drew ?_ | refine below_drewN ?_ _ | refine le_drewN _ ?_ | refine Below.setCell ?_ ?_ _ | exact Nat.le_refl _ | refine le_ext _ ?_ | refine le_alloc _ ?_ | refine le_setCell _ _ ?_ | refine le_drew ?_) | omega | (simp; done) | (simp; omega)))))⟩
    · have : k = n := by omega
      subst this
      go_wp2
      go_ret
      exact ⟨ret_int (firstIdx_none hp.out).symm, (ext_mk (by (repeat' (first | (with_reducible first | exact Below.refl _ _ | assumption | refine below_ext _ ?_ ?_ | refine Below.alloc ?_ ?_ _ | refine Below.drew ?_ | refine below_drewN ?_ _ | refine le_drewN _ ?_ | refine Below.setCell ?_ ?_ _ | exact Nat.le_refl _ | refine le_ext _ ?_ | refine le_alloc _ ?_ | refine le_setCell _ _ ?_ | refine le_drew ?_) | omega | (simp; done) | (simp; omega)))))⟩
theorem box_ext' (w : World) (v : Value) (T : TypeId) (y : World) : (ext (w.alloc (.cells #[v] T)) y).cell? ⟨w.heap.size, 0, none⟩ = some v ∧ w.heap.size + 1 ≤ (ext (w.alloc (.cells #[v] T)) y).heap.size ∧ Below w.heap.size w (ext (w.alloc (.cells #[v] T)) y) := by
  have h1 : (w.alloc (.cells #[v] T)).heap.size = w.heap.size + 1 := by simp
  refine ⟨((ext_below (w.alloc (.cells #[v] T)) y).cell (p := ⟨w.heap.size, 0, none⟩) (show w.heap.size < (w.alloc (.cells #[v] T)).heap.size by omega)).trans ?_, by rw [← h1]; exact ext_size _ y, ?_⟩
  · simp
  · exact (by (repeat' (first | (with_reducible first | exact Below.refl _ _ | assumption | refine below_ext _ ?_ ?_ | refine Below.alloc ?_ ?_ _ | refine Below.drew ?_ | refine below_drewN ?_ _ | refine le_drewN _ ?_ | refine Below.setCell ?_ ?_ _ | exact Nat.le_refl _ | refine le_ext _ ?_ | refine le_alloc _ ?_ | refine le_setCell _ _ ?_ | refine le_drew ?_) | omega | (simp; done) | (simp; omega))))
theorem can_bd {ps : List Pt} (h : simB ps = true) : canO ps = canL ps := by unfold canO; rw [if_pos h]
theorem can_no {ps : List Pt} (h : simB ps = false) : canO ps = [] := by unfold canO; rw [h]; rfl
end Go.Proofs.YtkkmioffclpmfaaGreat
