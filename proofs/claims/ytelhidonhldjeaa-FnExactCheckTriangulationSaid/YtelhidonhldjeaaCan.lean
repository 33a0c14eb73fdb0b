
/- Canonical: the program's and the reference's. -/
import Derived.Test.YtelhidonhldjeaaRing
import Derived.Test.YtelhidonhldjeaaCanP
import Derived.Test.YtelhidonhldjeaaSorted
import Derived.Test.YtelhidonhldjeaaSimI
import Derived.Test.YtelhidonhldjeaaSimS
import Derived.Test.YtelhidonhldjeaaSHull
import Derived.Test.YtelhidonhldjeaaTri
import Derived.Test.YtelhidonhldjeaaSlay
import Derived.Test.YtelhidonhldjeaaSlayI
import Derived.Test.YtelhidonhldjeaaConv
import Derived.Shelf.SlicesE.Reverse
set_option linter.unusedVariables false
set_option linter.unusedSimpArgs false
namespace Go.Proofs.Ytelhidonhldjeaa
open Go.RowKit Go.Shelf Go.Sort Go.Lib

theorem revI_any (z0 : Int) (zs : List Int) (base g n c : Nat) (w : World) (hn : zs.length = n) (hm : n ≤ 1000) (hown : Own w base (.slice (some ⟨g, 0, none⟩) (n + 1) c) (z0 :: zs)) :
    Calls Try.prog 112 #[.slice (some ⟨g, 1, none⟩) n (c - 1)] w fun e w' => e = .returned (.tuple #[]) ∧ Own w' base (.slice (some ⟨g, 0, none⟩) (n + 1) c) (z0 :: zs.reverse) ∧ Below base w w' := by
  unfold Own at hown
  obtain ⟨hl, ⟨hv, _⟩ | ⟨g', cap, cur, hv, hg, hgg, hnc, hcm, hsz, htk⟩⟩ := hown
  · injection hv with hv; cases hv
  injection hv with h1 h2 h3
  injection h1 with h1
  injection h1 with h1
  subst h1 h3
  have hlen : (z0 :: zs).length = n + 1 := by rw [List.length_cons, hn]
  rw [hlen, Nat.mul_one] at htk
  rw [hlen] at hnc
  rw [Nat.mul_one] at hsz
  have hcell : ∀ j, j < n → cur[1 + j]? = some (.int .i64 (zs[j]!)) := fun j hj => by
    have : (cur.toList.take (n + 1))[1 + j]? = some (.int .i64 (zs[j]!)) := by
      rw [htk, List.getElem?_map, Nat.add_comm 1 j, List.getElem?_cons_succ, List.getElem?_eq_getElem (by omega), getElem!_pos zs j (by omega)]; rfl
    rw [List.getElem?_take, if_pos (by omega)] at this
    rw [← Array.getElem?_toList]; exact this
  have hH : Holds (Value.int .i64) w g 1 zs.toArray := fun j hj => by
    have hj' : j < n := by simpa [hn] using hj
    refine ⟨?_, heap_frozen hgg _⟩
    rw [heap_cell hgg, hcell j hj']
    congr 2
    simp [hn, hj']
  have hcon := AnyE.slices_Reverse Try.revInt (Value.int .i64) (fun _ => rfl) g 1 (c - 1) zs w hH (by omega)
  rw [hn] at hcon
  refine hcon.mono ?_
  rintro e w' ⟨rfl, q, rfl⟩
  have hc2 : (putRow (Value.int .i64) (Sort.ahead w q) g 1 zs.reverse.toArray).heap[g]? = some (.cells (putCells (Value.int .i64) 1 zs.reverse.toArray cur) 3 (0, 0)) := by
    show ((Sort.ahead w q).heap.modify g _)[g]? = _
    rw [Array.getElem?_modify, if_pos rfl]
    show Option.map _ (w.heap[g]?) = _
    rw [hgg]; rfl
  have hoth : ∀ k, k ≠ g → (putRow (Value.int .i64) (Sort.ahead w q) g 1 zs.reverse.toArray).heap[k]? = w.heap[k]? := fun k hk => by
    show ((Sort.ahead w q).heap.modify g _)[k]? = _
    rw [Array.getElem?_modify, if_neg (by omega)]; rfl
  have hs : (putRow (Value.int .i64) (Sort.ahead w q) g 1 zs.reverse.toArray).heap.size = w.heap.size := by
    show ((Sort.ahead w q).heap.modify g _).size = _
    rw [Array.size_modify]; rfl
  refine ⟨rfl, ⟨by simp [hn], .inr ⟨g, c, _, by simp [hn], hg, hc2, by simp [hn]; omega, hcm, by simp [putCells, hsz], ?_⟩⟩, ⟨rfl, rfl, rfl, by rw [hs]; exact Nat.le_refl _, fun k hk => hoth k (by omega)⟩⟩
  refine List.ext_getElem? fun k => ?_
  have hrl : (z0 :: zs.reverse).length = n + 1 := by simp [hn]
  rw [hrl, Nat.mul_one, List.getElem?_take, List.getElem?_map]
  by_cases hk : k < n + 1
  · rw [if_pos hk]
    unfold putCells
    rw [Array.getElem?_toList, Array.getElem?_mapIdx, Array.getElem?_eq_getElem (show k < cur.size by omega)]
    cases k with
    | zero =>
      have h0 : cur[0]? = some (.int .i64 z0) := by
        have : (cur.toList.take (n + 1))[0]? = some (.int .i64 z0) := by rw [htk]; rfl
        rw [List.getElem?_take, if_pos (by omega)] at this
        rw [← Array.getElem?_toList]; exact this
      rw [Array.getElem?_eq_getElem (show 0 < cur.size by omega)] at h0
      injection h0 with h0
      simp [h0]
    | succ j =>
      have hj : j < n := by omega
      simp [hn, hj, Nat.add_comm 1]
  · rw [if_neg hk, List.getElem?_eq_none (by omega)]; rfl
def idTo (k : Nat) : List Int := (List.range k).map fun i : Nat => ((i : Nat) : Int)
theorem idTo_len (k : Nat) : (idTo k).length = k := by simp [idTo]
theorem idTo_succ (k : Nat) : idTo (k + 1) = idTo k ++ [(k : Int)] := by unfold idTo; rw [List.range_succ, List.map_append]; rfl
theorem idTo_cons (k : Nat) : idTo (k + 1) = (0 : Int) :: (idTo k).map (· + 1) := by
  unfold idTo
  rw [List.range_succ_eq_map, List.map_cons, List.map_map, List.map_map]
  simp [Function.comp_def]
theorem rgL_pos {ps : List Pt} (h : 0 ≤ areaL ps) : rgL ps = idTo ps.length := by
  unfold rgL rgTo idTo rgI
  exact List.map_congr_left fun i _ => by rw [if_neg (by omega)]
theorem rgL_neg {ps : List Pt} {m : Nat} (h : areaL ps < 0) (hm : ps.length = m + 1) : rgL ps = (0 : Int) :: ((idTo m).map (· + 1)).reverse := by
  refine List.ext_getElem (by simp [rgL, rgTo_len, idTo_len, hm]) fun j h1 h2 => ?_
  have hj : j < m + 1 := by rw [← hm]; simpa [rgL, rgTo_len] using h1
  have e : (rgL ps)[j] = (rgI ps j : Int) := by rw [← gi_lt h1, rgL_at (by omega)]
  rw [e]
  unfold rgI
  rw [if_pos h, hm]
  cases j with
  | zero => simp
  | succ j =>
    rw [Nat.mod_eq_of_lt (by omega)]
    simp [idTo]
    omega
set_option maxRecDepth 20000 in
set_option maxHeartbeats 1000000 in
theorem counter_any (ps : List Pt) (A : Option Addr) (n c : Nat) (w : World) (hn : ps.length = n) (h1 : 3 ≤ n) (hm : n ≤ 1000) (hb : ∀ p ∈ ps, (-100000 ≤ p.x ∧ p.x ≤ 100000) ∧ -100000 ≤ p.y ∧ p.y ≤ 100000) (hs : PtsAt w w.heap.size A ps) :
    Calls Try.prog 62 #[.slice A n c] w fun e w' => ∃ v, e = .returned v ∧ Own w' w.heap.size v (rgL ps) ∧ ∃ x, w' = ext w x := by
  obtain ⟨i0, hi, hz0, hz1, hz2⟩ := info_parts intElt.inf
  have IP := hide (And.intro hi (And.intro hz0 (And.intro hz1 hz2)))
  clear hi hz0 hz1 hz2
  have mk1 : i0.bytes * n ≤ 281474976710656 := by rw [IP.out.2.2.2]; omega
  have mk2 : n ≤ maxLen := by unfold maxLen; omega
  have SA := hide (fun (W : World) (hbl : Below w.heap.size w W) => area_any ps A n c W hn hm hb (hs.to hbl))
  have RP := hide (rgL_pos (ps := ps))
  rw [hn] at RP
  obtain ⟨m, hmn⟩ : ∃ m, n = m + 1 := ⟨n - 1, by omega⟩
  have RN := hide (fun h => rgL_neg (ps := ps) (m := m) h (by omega))
  have ID := hide (idTo_succ)
  have IC : Hid (idTo n = (0 : Int) :: (idTo m).map (· + 1)) := hide (by rw [hmn]; exact idTo_cons m)
  have IL := hide (idTo_len)
  have MN : Hid (n = m + 1) := hide hmn
  clear hn hb hs hmn
  go_enter Try.func62, Try.ntmps62
  go_wp2_with (refine wpList_make_own _ rfl (.const (.int .i64 0)) (.tmp 6) 65 rfl w.heap.size 3 i0 _ 1 intElt.und IP.out.1 IP.out.2.1 IP.out.2.2.1 .i64 .i64 _ n rfl rfl rfl mk1 mk2 (Nat.le_refl _) ?_; intro w1 hown1 hgr1; have O1 := hide (show Own w1 w.heap.size _ [] from hown1); have B1 := hide ((Below.refl _ _).grown hgr1 (Nat.le_refl _) (fun k hk => by cases hk)); clear hown1 hgr1)
  go_loopw [3, 4, 10] (fun u3 _ u10 wr => ∃ k : Nat, k ≤ n ∧ u10 = .int .i64 k ∧ Own wr w.heap.size u3 (idTo k) ∧ Below w.heap.size w wr) (fun _ _ u10 _ => n - (intOf u10).toNat)
  case atStart => exact ⟨0, Nat.zero_le _, rfl, O1.out.below (by (repeat' (first | (with_reducible exact Below.refl _ _) | (with_reducible assumption) | (with_reducible refine below_ext _ ?_ ?_) | (with_reducible refine Below.alloc ?_ ?_ _) | (with_reducible refine Below.drew ?_) | (with_reducible refine below_drewN ?_ _) | (with_reducible refine le_drewN _ ?_) | (with_reducible refine Below.setCell ?_ ?_ _) | (with_reducible exact Nat.le_refl _) | (with_reducible refine le_ext _ ?_) | (with_reducible refine le_alloc _ ?_) | (with_reducible refine le_setCell _ _ ?_) | (with_reducible refine le_drew ?_) | omega | (simp; done) | (simp; omega)))), Below.trans B1.out (by (repeat' (first | (with_reducible exact Below.refl _ _) | (with_reducible assumption) | (with_reducible refine below_ext _ ?_ ?_) | (with_reducible refine Below.alloc ?_ ?_ _) | (with_reducible refine Below.drew ?_) | (with_reducible refine below_drewN ?_ _) | (with_reducible refine le_drewN _ ?_) | (with_reducible refine Below.setCell ?_ ?_ _) | (with_reducible exact Nat.le_refl _) | (with_reducible refine le_ext _ ?_) | (with_reducible refine le_alloc _ ?_) | (with_reducible refine le_setCell _ _ ?_) | (with_reducible refine le_drew ?_) | omega | (simp; done) | (simp; omega))))⟩
  case round =>
    obtain ⟨k, hk, rfl, hown, hbel⟩ := hrel
    obtain ⟨Ak, nk, ck, rfl⟩ := own_slice hown
    have hsz := hbel.size
    have OWN := hide hown
    clear hown
    have hal : (idTo k).length ≤ 2000000 := by rw [IL.out]; omega
    by_cases hlt : k < n
    · go_wp2_with (at_builtin; refine app_one rfl _ _ rfl w.heap.size (.slice Ak nk ck) (idTo k) rfl (OWN.out.below (by (repeat' (first | (with_reducible exact Below.refl _ _) | (with_reducible assumption) | (with_reducible refine below_ext _ ?_ ?_) | (with_reducible refine Below.alloc ?_ ?_ _) | (with_reducible refine Below.drew ?_) | (with_reducible refine below_drewN ?_ _) | (with_reducible refine le_drewN _ ?_) | (with_reducible refine Below.setCell ?_ ?_ _) | (with_reducible exact Nat.le_refl _) | (with_reducible refine le_ext _ ?_) | (with_reducible refine le_alloc _ ?_) | (with_reducible refine le_setCell _ _ ?_) | (with_reducible refine le_drew ?_) | omega | (simp; done) | (simp; omega))))) (k : Int) _ _ rfl (by simp [go_sem]) hal (by simp; omega) ?_; intro v' w' hown' hb' hat hgr; obtain ⟨A', n', c', rfl⟩ := own_slice hown'; have OWN' := hide hown'; clear hown' hat hgr)
      exact ⟨⟨k + 1, by omega, by go_num, by rw [ID.out]; exact OWN'.out, Below.trans (Below.trans hbel (by (repeat' (first | (with_reducible exact Below.refl _ _) | (with_reducible assumption) | (with_reducible refine below_ext _ ?_ ?_) | (with_reducible refine Below.alloc ?_ ?_ _) | (with_reducible refine Below.drew ?_) | (with_reducible refine below_drewN ?_ _) | (with_reducible refine le_drewN _ ?_) | (with_reducible refine Below.setCell ?_ ?_ _) | (with_reducible exact Nat.le_refl _) | (with_reducible refine le_ext _ ?_) | (with_reducible refine le_alloc _ ?_) | (with_reducible refine le_setCell _ _ ?_) | (with_reducible refine le_drew ?_) | omega | (simp; done) | (simp; omega))))) hb'⟩, by simp [intOf]; omega⟩
    · have ek : k = n := by omega
      subst ek
      go_wp2_with fail
      refine (SA.out _ (by (repeat' (first | (with_reducible exact Below.refl _ _) | (with_reducible assumption) | (with_reducible refine below_ext _ ?_ ?_) | (with_reducible refine Below.alloc ?_ ?_ _) | (with_reducible refine Below.drew ?_) | (with_reducible refine below_drewN ?_ _) | (with_reducible refine le_drewN _ ?_) | (with_reducible refine Below.setCell ?_ ?_ _) | (with_reducible exact Nat.le_refl _) | (with_reducible refine le_ext _ ?_) | (with_reducible refine le_alloc _ ?_) | (with_reducible refine le_setCell _ _ ?_) | (with_reducible refine le_drew ?_) | omega | (simp; done) | (simp; omega))))).mono ?_
      rintro e w' ⟨rfl, hw'⟩; have hzy1 := ext_sz hw'; obtain ⟨y1, rfl⟩ := hw'; (try simp at hzy1)
      by_cases hneg : areaL ps < 0
      · have d1 : decide (areaL ps < 0) = true := decide_eq_true hneg
        have K := hide (RN.out hneg)
        have O2 : Hid (Own (ext wr y1) w.heap.size (.slice Ak nk ck) ((0 : Int) :: (idTo m).map (· + 1))) := hide (by rw [← IC.out]; exact OWN.out.below (by (repeat' (first | (with_reducible exact Below.refl _ _) | (with_reducible assumption) | (with_reducible refine below_ext _ ?_ ?_) | (with_reducible refine Below.alloc ?_ ?_ _) | (with_reducible refine Below.drew ?_) | (with_reducible refine below_drewN ?_ _) | (with_reducible refine le_drewN _ ?_) | (with_reducible refine Below.setCell ?_ ?_ _) | (with_reducible exact Nat.le_refl _) | (with_reducible refine le_ext _ ?_) | (with_reducible refine le_alloc _ ?_) | (with_reducible refine le_setCell _ _ ?_) | (with_reducible refine le_drew ?_) | omega | (simp; done) | (simp; omega)))))
        have hl := O2.out.ints
        have hnk : nk = k := by have := hl.1; simp [idTo_len] at this; have := MN.out; omega
        obtain ⟨g, hA, hg, hgs, hfz, _⟩ := O2.out.head (by omega)
        have hck := hl.2.1
        have hcm := hl.2.2.1
        unfold maxLen at hcm
        subst hA
        subst hnk
        have RV : Hid (Calls Try.prog 112 #[.slice (some ⟨g, 1, none⟩) (nk - 1) (ck - 1)] (ext wr y1) fun e w' => e = .returned (.tuple #[]) ∧ Own w' w.heap.size (.slice (some ⟨g, 0, none⟩) nk ck) (0 :: ((idTo m).map (· + 1)).reverse) ∧ Below w.heap.size (ext wr y1) w') := hide (by
          have h := MN.out
          subst h
          exact revI_any 0 ((idTo m).map (· + 1)) w.heap.size g m ck (ext wr y1) (by simp [idTo_len]) (by omega) O2.out)
        have q1 : (1 : Int) ≤ (nk : Int) := by omega
        have q2 : (nk : Int) ≤ (ck : Int) := by omega
        have q0 : ¬ ck = 1 := by omega
        have HB := hide hbel
        clear hl hfz hneg OWN hgs hg MN O2 IC IP ID IL hcm hck RN B1 hsz hbel
        go_wp2_with fail
        refine RV.out.mono ?_
        rintro e w5 ⟨rfl, hown5, hb5⟩
        have O5 := hide hown5
        have B5 := hide hb5
        clear hown5 hb5
        go_wp2_with fail
        go_ret
        exact ⟨_, rfl, by rw [K.out]; exact O5.out, by have hsz := HB.out.size; exact ext_mk (Below.trans (Below.trans HB.out (by (repeat' (first | (with_reducible exact Below.refl _ _) | (with_reducible assumption) | (with_reducible refine below_ext _ ?_ ?_) | (with_reducible refine Below.alloc ?_ ?_ _) | (with_reducible refine Below.drew ?_) | (with_reducible refine below_drewN ?_ _) | (with_reducible refine le_drewN _ ?_) | (with_reducible refine Below.setCell ?_ ?_ _) | (with_reducible exact Nat.le_refl _) | (with_reducible refine le_ext _ ?_) | (with_reducible refine le_alloc _ ?_) | (with_reducible refine le_setCell _ _ ?_) | (with_reducible refine le_drew ?_) | omega | (simp; done) | (simp; omega))))) B5.out)⟩
      · have d1 : decide (areaL ps < 0) = false := decide_eq_false hneg
        have K := hide (RP.out (by omega))
        clear hneg
        go_wp2_with fail
        go_ret
        exact ⟨_, rfl, by rw [K.out]; exact OWN.out.below (by (repeat' (first | (with_reducible exact Below.refl _ _) | (with_reducible assumption) | (with_reducible refine below_ext _ ?_ ?_) | (with_reducible refine Below.alloc ?_ ?_ _) | (with_reducible refine Below.drew ?_) | (with_reducible refine below_drewN ?_ _) | (with_reducible refine le_drewN _ ?_) | (with_reducible refine Below.setCell ?_ ?_ _) | (with_reducible exact Nat.le_refl _) | (with_reducible refine le_ext _ ?_) | (with_reducible refine le_alloc _ ?_) | (with_reducible refine le_setCell _ _ ?_) | (with_reducible refine le_drew ?_) | omega | (simp; done) | (simp; omega)))), ext_mk (hbel.trans (by (repeat' (first | (with_reducible exact Below.refl _ _) | (with_reducible assumption) | (with_reducible refine below_ext _ ?_ ?_) | (with_reducible refine Below.alloc ?_ ?_ _) | (with_reducible refine Below.drew ?_) | (with_reducible refine below_drewN ?_ _) | (with_reducible refine le_drewN _ ?_) | (with_reducible refine Below.setCell ?_ ?_ _) | (with_reducible exact Nat.le_refl _) | (with_reducible refine le_ext _ ?_) | (with_reducible refine le_alloc _ ?_) | (with_reducible refine le_setCell _ _ ?_) | (with_reducible refine le_drew ?_) | omega | (simp; done) | (simp; omega)))))⟩
set_option maxHeartbeats 400000 in
theorem IndexFuncI_any (g : Nat) (lb : Array Value) (p : Nat → Bool) (zs : List Int) (A : Option Addr) (n c : Nat) (w : World) (hn : zs.length = n) (hm : n ≤ 2000000) (eg : ∀ args w, (callFunc g args).run Try.prog w = .ok (.enter g args) w)
    (hs : IntsAt w w.heap.size A zs) (hg : ∀ (W : World) (i : Nat), Below w.heap.size w W → i < zs.length → Calls Try.prog g (#[.int .i64 (gi zs i)] ++ lb) W fun e w' => e = .returned (.bool (p i)) ∧ ∃ m, w' = ext W m) :
    Calls Try.prog 63 #[.slice A n c, .func (.func g) #[] lb] w fun e w' => e = .returned (.int .i64 (firstIdx p n)) ∧ ∃ m, w' = ext w m := by
  have HG := hide hg
  clear hg
  go_enter Try.func63, Try.ntmps63
  go_wp2
  go_loopw [8] (fun v8 wr => ∃ k : Nat, k ≤ n ∧ v8 = .int .i64 k ∧ Hid (∀ j, j < k → p j = false) ∧ ∃ x, wr = ext w x) (fun v8 _ => n - (intOf v8).toNat)
  case atStart => exact ⟨0, Nat.zero_le _, rfl, fun j hj => by omega, ext_same w⟩
  case round =>
    obtain ⟨k, hk, rfl, hp, x, rfl⟩ := hrel
    by_cases hlt : k < n
    · obtain ⟨b, o, rfl, hb, hc⟩ := hs (by omega)
      have hck := hc k (by omega)
      clear hc
      go_wp2_with (go_at_fn g; refine (HG.out _ k (ext_below w x) (by omega)).mono ?_; rintro e w' ⟨rfl, y, rfl⟩)
      case roundEnd =>
        have hpk : p k = false := by assumption
        exact ⟨⟨k + 1, by omega, by go_num, fun j hj => by rcases Nat.lt_succ_iff_lt_or_eq.1 hj with h | rfl; exact hp.out j h; exact hpk, (ext_mk (by (repeat' (first | (with_reducible exact Below.refl _ _) | (with_reducible assumption) | (with_reducible refine below_ext _ ?_ ?_) | (with_reducible refine Below.alloc ?_ ?_ _) | (with_reducible refine Below.drew ?_) | (with_reducible refine below_drewN ?_ _) | (with_reducible refine le_drewN _ ?_) | (with_reducible refine Below.setCell ?_ ?_ _) | (with_reducible exact Nat.le_refl _) | (with_reducible refine le_ext _ ?_) | (with_reducible refine le_alloc _ ?_) | (with_reducible refine le_setCell _ _ ?_) | (with_reducible refine le_drew ?_) | omega | (simp; done) | (simp; omega)))))⟩, by simp [intOf]; omega⟩
      have hpk : p k = true := by assumption
      go_ret
      exact ⟨ret_int (firstIdx_at hlt hpk hp.out).symm, (ext_mk (by (repeat' (first | (with_reducible exact Below.refl _ _) | (with_reducible assumption) | (with_reducible refine below_ext _ ?_ ?_) | (with_reducible refine Below.alloc ?_ ?_ _) | (with_reducible refine Below.drew ?_) | (with_reducible refine below_drewN ?_ _) | (with_reducible refine le_drewN _ ?_) | (with_reducible refine Below.setCell ?_ ?_ _) | (with_reducible exact Nat.le_refl _) | (with_reducible refine le_ext _ ?_) | (with_reducible refine le_alloc _ ?_) | (with_reducible refine le_setCell _ _ ?_) | (with_reducible refine le_drew ?_) | omega | (simp; done) | (simp; omega)))))⟩
    · have : k = n := by omega
      subst this
      go_wp2
      go_ret
      exact ⟨ret_int (firstIdx_none hp.out).symm, (ext_mk (by (repeat' (first | (with_reducible exact Below.refl _ _) | (with_reducible assumption) | (with_reducible refine below_ext _ ?_ ?_) | (with_reducible refine Below.alloc ?_ ?_ _) | (with_reducible refine Below.drew ?_) | (with_reducible refine below_drewN ?_ _) | (with_reducible refine le_drewN _ ?_) | (with_reducible refine Below.setCell ?_ ?_ _) | (with_reducible exact Nat.le_refl _) | (with_reducible refine le_ext _ ?_) | (with_reducible refine le_alloc _ ?_) | (with_reducible refine le_setCell _ _ ?_) | (with_reducible refine le_drew ?_) | omega | (simp; done) | (simp; omega)))))⟩
set_option maxHeartbeats 1000000 in
theorem can1_any (ps : List Pt) (i : Nat) (A : Option Addr) (n c bx : Nat) (w : World) (hn : ps.length = n) (hm : n ≤ 1000) (hi : i < n) (hs : PtsAt w w.heap.size A ps) (hA : Plain A n) (hx : w.cell? ⟨bx, 0, none⟩ = some (.slice A n c)) :
    Calls Try.prog 64 #[.int .i64 i, .pointer (some ⟨bx, 0, none⟩)] w fun e w' => e = .returned (.bool (decide (gp ps i = lpt ps))) ∧ ∃ x, w' = ext w x := by
  have l1 : bx < w.heap.size := World.block_lt_of_cell? w _ hx
  have ST := hide (fun (W : World) (hbl : Below w.heap.size w W) => sorted_any ps A n c W hn hm (hs.to hbl) hA)
  have E : Hid (eqP (gp ps i).x (gp ps i).y (lpt ps).x (lpt ps).y = decide (gp ps i = lpt ps)) := hide (by first | exact eqP_dec _ _ _ _ | exact (eqP_dec _ _ _ _).symm)
  have SL : 0 < (sortP ps).length := List.length_pos_of_mem (sortP_mem.2 (gp_mem (show i < ps.length by omega)))
  obtain ⟨b, o, rfl, hb, hc⟩ := hs (by omega)
  obtain ⟨hx1, hy1⟩ := hc i (by omega)
  have L0 : Hid (pX (sortP ps) 0 = (lpt ps).x ∧ pY (sortP ps) 0 = (lpt ps).y) := hide ⟨rfl, rfl⟩
  have q1 : (0 : Int) ≤ (i : Int) := by omega
  have q2 : (i : Int) < (n : Int) := by omega
  have EQ := hide run_eqPt
  change w.cell? ⟨b, o + i * 2, none⟩ = some (.int .i64 (gp ps i).x) at hx1
  change w.cell? ⟨b, o + i * 2 + 1, none⟩ = some (.int .i64 (gp ps i).y) at hy1
  clear hc hn hs hA
  generalize (gp ps i).x = X1 at *
  generalize (gp ps i).y = Y1 at *
  generalize (lpt ps).x = X2 at *
  generalize (lpt ps).y = Y2 at *
  have RUN := run_eqPt X1 Y1 X2 Y2
  go_enter Try.func64, Try.ntmps64
  go_wp2_with fail
  go_region_with (go_at_call 65; refine (ST.out _ (by (repeat' (first | (with_reducible exact Below.refl _ _) | (with_reducible assumption) | (with_reducible refine below_ext _ ?_ ?_) | (with_reducible refine Below.alloc ?_ ?_ _) | (with_reducible refine Below.drew ?_) | (with_reducible refine below_drewN ?_ _) | (with_reducible refine le_drewN _ ?_) | (with_reducible refine Below.setCell ?_ ?_ _) | (with_reducible exact Nat.le_refl _) | (with_reducible refine le_ext _ ?_) | (with_reducible refine le_alloc _ ?_) | (with_reducible refine le_setCell _ _ ?_) | (with_reducible refine le_drew ?_) | omega | (simp; done) | (simp; omega))))).mono ?_; rintro e w5 ⟨A5, n5, c5, rfl, hl5, hnc5, hcm5, hrow5, hpl5, hw5⟩; have hz5 := ext_sz hw5; obtain ⟨b5, o5, rfl, hb5, hc5⟩ := hrow5.pts SL; obtain ⟨h05, h15⟩ := hc5 0 SL; rw [L0.out.1] at h05; rw [L0.out.2] at h15; obtain ⟨x5, rfl⟩ := hw5; (try simp at h05); (try simp at h15); (try simp at hz5); have q5 : 0 < n5 := Nat.lt_of_lt_of_eq SL hl5; clear hrow5 hpl5 hc5)
  all_goals (go_wp2_with fail)
  all_goals go_ret
  all_goals exact ⟨ret_bool E.out, (ext_mk (by (repeat' (first | (with_reducible exact Below.refl _ _) | (with_reducible assumption) | (with_reducible refine below_ext _ ?_ ?_) | (with_reducible refine Below.alloc ?_ ?_ _) | (with_reducible refine Below.drew ?_) | (with_reducible refine below_drewN ?_ _) | (with_reducible refine le_drewN _ ?_) | (with_reducible refine Below.setCell ?_ ?_ _) | (with_reducible exact Nat.le_refl _) | (with_reducible refine le_ext _ ?_) | (with_reducible refine le_alloc _ ?_) | (with_reducible refine le_setCell _ _ ?_) | (with_reducible refine le_drew ?_) | omega | (simp; done) | (simp; omega)))))⟩
theorem box_ext' (w : World) (v : Value) (T : TypeId) (y : World) : (ext (w.alloc (.cells #[v] T)) y).cell? ⟨w.heap.size, 0, none⟩ = some v ∧ w.heap.size + 1 ≤ (ext (w.alloc (.cells #[v] T)) y).heap.size ∧ Below w.heap.size w (ext (w.alloc (.cells #[v] T)) y) := by
  have h1 : (w.alloc (.cells #[v] T)).heap.size = w.heap.size + 1 := by simp
  refine ⟨((ext_below (w.alloc (.cells #[v] T)) y).cell (p := ⟨w.heap.size, 0, none⟩) (show w.heap.size < (w.alloc (.cells #[v] T)).heap.size by omega)).trans ?_, by rw [← h1]; exact ext_size _ y, ?_⟩
  · simp
  · exact (by (repeat' (first | (with_reducible exact Below.refl _ _) | (with_reducible assumption) | (with_reducible refine below_ext _ ?_ ?_) | (with_reducible refine Below.alloc ?_ ?_ _) | (with_reducible refine Below.drew ?_) | (with_reducible refine below_drewN ?_ _) | (with_reducible refine le_drewN _ ?_) | (with_reducible refine Below.setCell ?_ ?_ _) | (with_reducible exact Nat.le_refl _) | (with_reducible refine le_ext _ ?_) | (with_reducible refine le_alloc _ ?_) | (with_reducible refine le_setCell _ _ ?_) | (with_reducible refine le_drew ?_) | omega | (simp; done) | (simp; omega))))
theorem can_bd {ps : List Pt} (h : simB ps = true) : canO ps = canL ps := by unfold canO; rw [if_pos h]
theorem can_no {ps : List Pt} (h : simB ps = false) : canO ps = [] := by unfold canO; rw [h]; rfl
set_option maxRecDepth 20000 in
set_option maxHeartbeats 2000000 in
theorem iCan_any (ps : List Pt) (A : Option Addr) (n c : Nat) (w : World) (hn : ps.length = n) (hm : n ≤ 2000000) (hA : Plain A n) (hs : PtsAt w w.heap.size A ps) :
    Calls Try.prog 25 #[.slice A n c] w fun e w' => ∃ v, e = .returned v ∧ OwnP w' w.heap.size v (canO ps) ∧ ∃ x, w' = ext w x := by
  have HC := hide (fun (W : World) (hb : Below w.heap.size w W) => simple_any ps A n c W hn hm hA (hs.to hb))
  by_cases hok : simB ps = true
  · rw [hok] at HC
    obtain ⟨hib, h3, h20, _⟩ := simB_parts hok
    have hp5 := (sim_of hok).nodup
    have k3 : 3 ≤ n := by omega
    have k20 : n ≤ 20 := by omega
    have CT := hide (fun (W : World) (hb : Below w.heap.size w W) => counter_any ps A n c W hn (by omega) (by omega) hib (hs.to hb))
    have C1 := hide (fun (i bx : Nat) (W : World) (hb : Below w.heap.size w W) (hi : i < n) (hx : W.cell? ⟨bx, 0, none⟩ = some (.slice A n c)) => can1_any ps i A n c bx W hn (by omega) hi (hs.to hb) hA hx)
    obtain ⟨m, hmn, hfi, hcp⟩ := can_prog hp5 (by omega)
    rw [hn] at hmn hfi hcp
    have CP := hide hcp
    have FI := hide hfi
    have RA : Hid (∀ i, i < n → gi (rgL ps) i = (rgI ps i : Int) ∧ rgI ps i < n) := hide (fun i hi => ⟨rgL_at (by omega), by rw [← hn]; exact rgI_lt (by omega)⟩)
    have LR : Hid ((rgL ps).length = n) := hide (by unfold rgL; rw [rgTo_len]; exact hn)
    have LC : Hid ((canL ps).length = n) := hide (by rw [can_len]; exact hn)
    have CB := hide (can_bd hok)
    have BI := hide hib
    have HN := hide hn
    obtain ⟨b1, o1, hAe, hb1, hc1⟩ := hs (by omega)
    subst hAe
    have HP : Hid (∀ i, i < n → w.cell? ⟨b1, o1 + i * 2, none⟩ = some (.int .i64 (pX ps i)) ∧ w.cell? ⟨b1, o1 + i * 2 + 1, none⟩ = some (.int .i64 (pY ps i))) := hide (fun i hi => hc1 i (by omega))
    obtain ⟨i0, hi, hz0, hz1, hz2⟩ := info_parts ptElt.inf
    have IP := hide (And.intro hi (And.intro hz0 (And.intro hz1 hz2)))
    have mk1 : i0.bytes * n ≤ 281474976710656 := by rw [IP.out.2.2.2]; omega
    have mk2 : n ≤ maxLen := by unfold maxLen; omega
    clear hi hz0 hz1 hz2 hn hok h3 h20 hm hib hp5 hfi hcp hs hc1 hA
    go_enter Try.func25, Try.ntmps25
    go_wp2_with fail
    refine (HC.out _ (by (repeat' (first | (with_reducible exact Below.refl _ _) | (with_reducible assumption) | (with_reducible refine below_ext _ ?_ ?_) | (with_reducible refine Below.alloc ?_ ?_ _) | (with_reducible refine Below.drew ?_) | (with_reducible refine below_drewN ?_ _) | (with_reducible refine le_drewN _ ?_) | (with_reducible refine Below.setCell ?_ ?_ _) | (with_reducible exact Nat.le_refl _) | (with_reducible refine le_ext _ ?_) | (with_reducible refine le_alloc _ ?_) | (with_reducible refine le_setCell _ _ ?_) | (with_reducible refine le_drew ?_) | omega | (simp; done) | (simp; omega))))).mono ?_
    rintro e w' ⟨rfl, hw'⟩; have hzy1 := ext_sz hw'; obtain ⟨y1, rfl⟩ := hw'; (try simp at hzy1)
    go_wp2_with fail
    refine (CT.out _ (by (repeat' (first | (with_reducible exact Below.refl _ _) | (with_reducible assumption) | (with_reducible refine below_ext _ ?_ ?_) | (with_reducible refine Below.alloc ?_ ?_ _) | (with_reducible refine Below.drew ?_) | (with_reducible refine below_drewN ?_ _) | (with_reducible refine le_drewN _ ?_) | (with_reducible refine Below.setCell ?_ ?_ _) | (with_reducible exact Nat.le_refl _) | (with_reducible refine le_ext _ ?_) | (with_reducible refine le_alloc _ ?_) | (with_reducible refine le_setCell _ _ ?_) | (with_reducible refine le_drew ?_) | omega | (simp; done) | (simp; omega))))).mono ?_
    rintro e w2 ⟨v, rfl, hown, hx2⟩
    obtain ⟨A2, n2, c2, rfl⟩ := own_slice hown
    have l2 := hown.ints.1
    rw [LR.out] at l2
    subst l2
    have q6 := hown.ints.2.1
    have q7 := hown.ints.2.2.1
    unfold maxLen at q7
    have IA := hide hown.ints.2.2.2
    have B2 := ext_bel hx2
    obtain ⟨CX0, zx, BX⟩ := box_ext' w (.slice (some ⟨b1, o1, none⟩) n c) 23 y1
    generalize ext (w.alloc (.cells #[.slice (some ⟨b1, o1, none⟩) n c] 23)) y1 = W1 at *
    have hz2 := B2.size
    clear hown hx2
    have CX : w2.cell? ⟨w.heap.size, 0, none⟩ = some (.slice (some ⟨b1, o1, none⟩) n c) := (B2.cell (p := ⟨w.heap.size, 0, none⟩) (show w.heap.size < _ from by omega)).trans CX0
    have BW : Hid (Below w.heap.size w w2) := hide (BX.trans (B2.mono (by omega)))
    have IX := hide (IndexFuncI_any 64 #[.pointer (some ⟨w.heap.size, 0, none⟩)] (fun i => decide (gp ps (rgI ps i) = lpt ps)) (rgL ps) A2 n c2 w2 LR.out (by omega) (enters _ Try.func64 (by kernel_rfl) rfl) IA.out (fun W t hW ht => by
      have ht' : t < n := by rw [← LR.out]; exact ht
      rw [(RA.out t ht').1]
      exact C1.out (rgI ps t) w.heap.size W (BW.out.trans (hW.mono (by omega))) (RA.out t ht').2 ((hW.cell (p := ⟨w.heap.size, 0, none⟩) (show w.heap.size < _ from by omega)).trans CX)))
    rw [FI.out] at IX
    clear C1 FI HC CT
    go_wp2_with fail
    refine IX.out.mono ?_
    rintro e w' ⟨rfl, hw'⟩; have hzy3 := ext_sz hw'; obtain ⟨y3, rfl⟩ := hw'; (try simp at hzy3)
    have B3 := BW.out.trans (show Below w.heap.size w2 (ext w2 y3) from (ext_below w2 y3).mono (by omega))
    have CX3 : (ext w2 y3).cell? ⟨w.heap.size, 0, none⟩ = some (.slice (some ⟨b1, o1, none⟩) n c) := ((ext_below w2 y3).cell (p := ⟨w.heap.size, 0, none⟩) (show w.heap.size < _ from by omega)).trans CX
    have IA3 := hide (IA.out.to (ext_below w2 y3))
    have hz3 : w2.heap.size ≤ (ext w2 y3).heap.size := ext_size w2 y3
    clear CX IA BW IX B2
    generalize ext w2 y3 = W3 at *
    have BW3 := hide B3
    clear B3
    go_wp2_with (refine wpList_make_own _ rfl (.const (.int .i64 0)) (.tmp 16) 23 rfl W3.heap.size 39 i0 _ 2 ptElt.und IP.out.1 IP.out.2.1 IP.out.2.2.1 .i64 .i64 _ n rfl rfl rfl mk1 mk2 (Nat.le_refl _) ?_; intro w4 hown4 hgr4; have O4 := hide (show OwnP w4 W3.heap.size _ [] from hown4); have B4 := hide ((Below.refl _ _).grown hgr4 (Nat.le_refl _) (fun k hk => by cases hk)); clear hown4 hgr4)
    go_loopw [5, 6, 20] (fun u5 _ u20 wr => ∃ (k : Nat), k ≤ n ∧ u20 = .int .i64 k ∧ OwnP wr W3.heap.size u5 ((canL ps).take k) ∧ Below W3.heap.size W3 wr) (fun _ _ u20 _ => n - (intOf u20).toNat)
    case atStart => exact ⟨0, Nat.zero_le _, rfl, O4.out.below (by (repeat' (first | (with_reducible exact Below.refl _ _) | (with_reducible assumption) | (with_reducible refine below_ext _ ?_ ?_) | (with_reducible refine Below.alloc ?_ ?_ _) | (with_reducible refine Below.drew ?_) | (with_reducible refine below_drewN ?_ _) | (with_reducible refine le_drewN _ ?_) | (with_reducible refine Below.setCell ?_ ?_ _) | (with_reducible exact Nat.le_refl _) | (with_reducible refine le_ext _ ?_) | (with_reducible refine le_alloc _ ?_) | (with_reducible refine le_setCell _ _ ?_) | (with_reducible refine le_drew ?_) | omega | (simp; done) | (simp; omega)))), Below.trans B4.out (by (repeat' (first | (with_reducible exact Below.refl _ _) | (with_reducible assumption) | (with_reducible refine below_ext _ ?_ ?_) | (with_reducible refine Below.alloc ?_ ?_ _) | (with_reducible refine Below.drew ?_) | (with_reducible refine below_drewN ?_ _) | (with_reducible refine le_drewN _ ?_) | (with_reducible refine Below.setCell ?_ ?_ _) | (with_reducible exact Nat.le_refl _) | (with_reducible refine le_ext _ ?_) | (with_reducible refine le_alloc _ ?_) | (with_reducible refine le_setCell _ _ ?_) | (with_reducible refine le_drew ?_) | omega | (simp; done) | (simp; omega))))⟩
    case round =>
      obtain ⟨k, hk, rfl, hown, hbel⟩ := hrel
      obtain ⟨A0, n0, c0, rfl⟩ := hown.slice
      have hsz := hbel.size
      have OWN0 := hide hown
      clear hown
      by_cases hlt : k < n
      · have hjn : (m + k) % n < n := Nat.mod_lt _ (by omega)
        have ej := CP.out k (by omega)
        have tj : Int.tmod ((m : Int) + (k : Int)) (n : Int) = (((m + k) % n : Nat) : Int) := (Int.ofNat_tmod (m + k) n).symm
        have tj2 : ((m : Int) + (k : Int)) % (n : Int) = (((m + k) % n : Nat) : Int) := by push_cast; rfl
        obtain ⟨hgi, hri⟩ := RA.out _ hjn
        generalize (m + k) % n = j at *
        generalize hr : rgI ps j = r at *
        clear hr
        obtain ⟨b2, o2, rfl, hb2, hc2⟩ := IA3.out (by rw [LR.out]; omega)
        have hz0 := hc2 j (by rw [LR.out]; omega)
        rw [hgi] at hz0
        obtain ⟨hx0, hy0⟩ := HP.out r hri
        have bxz := hbel.trans (Below.refl _ _)
        have hbx := (hbel.cell (p := ⟨w.heap.size, 0, none⟩) (show w.heap.size < _ from by omega)).trans CX3
        have hox := (hbel.cell (p := ⟨b2, o2 + j, none⟩) hb2).trans hz0
        have bw := BW3.out.trans (hbel.mono (by omega))
        have hx := (bw.cell (p := ⟨b1, o1 + r * 2, none⟩) hb1).trans hx0
        have hy := (bw.cell (p := ⟨b1, o1 + r * 2 + 1, none⟩) hb1).trans hy0
        have NX : Hid ((canL ps).take (k + 1) = (canL ps).take k ++ [⟨pX ps r, pY ps r⟩]) := hide (by
          rw [List.take_succ_eq_append_getElem (by rw [LC.out]; omega), ← gp_lt (by rw [LC.out]; omega), ej]; rfl)
        have NL : ((canL ps).take k).length ≤ 2000000 := by rw [List.length_take]; omega
        clear hc2 hz0 hx0 hy0 bxz ej
        have OD : Hid (∀ o, OwnP (wr.drew.alloc o) W3.heap.size (.slice A0 n0 c0) ((canL ps).take k)) := hide (fun o => OWN0.out.below (by (repeat' (first | (with_reducible exact Below.refl _ _) | (with_reducible assumption) | (with_reducible refine below_ext _ ?_ ?_) | (with_reducible refine Below.alloc ?_ ?_ _) | (with_reducible refine Below.drew ?_) | (with_reducible refine below_drewN ?_ _) | (with_reducible refine le_drewN _ ?_) | (with_reducible refine Below.setCell ?_ ?_ _) | (with_reducible exact Nat.le_refl _) | (with_reducible refine le_ext _ ?_) | (with_reducible refine le_alloc _ ?_) | (with_reducible refine le_setCell _ _ ?_) | (with_reducible refine le_drew ?_) | omega | (simp; done) | (simp; omega)))))
        have SZ : Hid (∀ o : Obj, W3.heap.size ≤ (wr.drew.alloc o).heap.size) := hide (fun o => by simp; omega)
        have b1w : b1 < wr.heap.size := by omega
        have b2w : b2 < wr.heap.size := by omega
        have bxw : w.heap.size < wr.heap.size := by omega
        have b13 : b1 < W3.heap.size := by omega
        have bx3 : w.heap.size < W3.heap.size := by omega
        have SC : Hid (∀ W : World, (∀ j, j < W3.heap.size → W.heap[j]? = wr.heap[j]?) → W.cell? ⟨w.heap.size, 0, none⟩ = some (.slice (some ⟨b1, o1, none⟩) n c) ∧ W.cell? ⟨b2, o2 + j, none⟩ = some (.int .i64 (r : Int)) ∧ W.cell? ⟨b1, o1 + r * 2, none⟩ = some (.int .i64 (pX ps r)) ∧ W.cell? ⟨b1, o1 + r * 2 + 1, none⟩ = some (.int .i64 (pY ps r))) := hide (fun W hW => ⟨(World.cell?_of_block (hW _ bx3)).trans hbx, (World.cell?_of_block (hW _ hb2)).trans hox, (World.cell?_of_block (hW _ b13)).trans hx, (World.cell?_of_block (hW _ b13)).trans hy⟩)
        have i1 : IntKind.i64.wrap ((m : Int) + (k : Int)) = (m : Int) + (k : Int) := IntWalk.i64_in _ (by omega)
        have i2 : IntKind.i64.wrap (j : Int) = j := IntWalk.i64_in _ (by omega)
        have n0' : ¬ n = 0 := by omega
        have q1 : (0 : Int) ≤ (j : Int) := by omega
        have q2 : (j : Int) < (n : Int) := by omega
        have q3 : (0 : Int) ≤ (r : Int) := by omega
        have q4 : (r : Int) < (n : Int) := by omega
        go_wp2_with fail
        go_region_held3 (fun W => W.cell? ⟨w.heap.size, 0, none⟩ = some (.slice (some ⟨b1, o1, none⟩) n c) ∧ W.cell? ⟨b2, o2 + j, none⟩ = some (.int .i64 (r : Int)) ∧ W.cell? ⟨b1, o1 + r * 2, none⟩ = some (.int .i64 (pX ps r)) ∧ W.cell? ⟨b1, o1 + r * 2 + 1, none⟩ = some (.int .i64 (pY ps r))) (first | exact SC.out _ (fun j _ => rfl) | exact SC.out _ (fun j hj => Below.heap_alloc _ _ j (Nat.lt_of_lt_of_le hj hsz)) | exact SC.out _ (fun j hj => (B7.out.block j hj).trans (Below.heap_alloc _ _ j (Nat.lt_of_lt_of_le hj hsz)))) (first | (refine step_pt (by rfl) (.tmp 23) (.tmp 36) (by rfl) W3.heap.size (.slice A0 n0 c0) ((canL ps).take k) (by rfl) (OD.out _) (pX ps r) (pY ps r) _ _ (by rfl) ((heap_cell (heap_alloc_new _ _) 0).trans rfl) ((heap_cell (heap_alloc_new _ _) 1).trans rfl) NL (SZ.out _) ?_; intro v7 w7 hown7 hb7 hat7 hgr7; obtain ⟨A7, n7, c7, rfl⟩ := hown7.slice; have O7 := hide hown7; have B7 := hide hb7; clear hown7 hat7 hgr7 hb7))
        go_wp2_with fail
        exact ⟨⟨k + 1, by omega, by go_num, by rw [NX.out]; exact O7.out, Below.trans (Below.trans hbel (by (repeat' (first | (with_reducible exact Below.refl _ _) | (with_reducible assumption) | (with_reducible refine below_ext _ ?_ ?_) | (with_reducible refine Below.alloc ?_ ?_ _) | (with_reducible refine Below.drew ?_) | (with_reducible refine below_drewN ?_ _) | (with_reducible refine le_drewN _ ?_) | (with_reducible refine Below.setCell ?_ ?_ _) | (with_reducible exact Nat.le_refl _) | (with_reducible refine le_ext _ ?_) | (with_reducible refine le_alloc _ ?_) | (with_reducible refine le_setCell _ _ ?_) | (with_reducible refine le_drew ?_) | omega | (simp; done) | (simp; omega))))) B7.out⟩, by simp [intOf]; omega⟩
      · have hkn : k = n := by omega
        subst hkn
        have e0 : (canL ps).take k = canL ps := List.take_of_length_le (by rw [LC.out]; exact Nat.le_refl _)
        have OWN1 : Hid (OwnP wr w.heap.size (.slice A0 n0 c0) (canO ps)) := hide (by have := OWN0.out; rw [e0] at this; rw [CB.out]; exact this.base (by omega))
        clear e0 OWN0
        go_wp2
        go_ret
        exact ⟨_, rfl, OWN1.out, ext_mk (BW3.out.trans (hbel.mono (by omega)))⟩
  · have hok := eq_false_of_ne_true hok
    rw [hok] at HC
    have DN := hide (can_no hok)
    clear hn hs hok
    go_enter Try.func25, Try.ntmps25
    go_wp2_with fail
    refine (HC.out _ (by (repeat' (first | (with_reducible exact Below.refl _ _) | (with_reducible assumption) | (with_reducible refine below_ext _ ?_ ?_) | (with_reducible refine Below.alloc ?_ ?_ _) | (with_reducible refine Below.drew ?_) | (with_reducible refine below_drewN ?_ _) | (with_reducible refine le_drewN _ ?_) | (with_reducible refine Below.setCell ?_ ?_ _) | (with_reducible exact Nat.le_refl _) | (with_reducible refine le_ext _ ?_) | (with_reducible refine le_alloc _ ?_) | (with_reducible refine le_setCell _ _ ?_) | (with_reducible refine le_drew ?_) | omega | (simp; done) | (simp; omega))))).mono ?_
    rintro e w' ⟨rfl, hw'⟩; have hzy1 := ext_sz hw'; obtain ⟨y1, rfl⟩ := hw'; (try simp at hzy1)
    go_wp2_with fail
    go_ret
    exact ⟨_, rfl, by rw [DN.out]; exact OwnP.nil _ _, (ext_mk (by (repeat' (first | (with_reducible exact Below.refl _ _) | (with_reducible assumption) | (with_reducible refine below_ext _ ?_ ?_) | (with_reducible refine Below.alloc ?_ ?_ _) | (with_reducible refine Below.drew ?_) | (with_reducible refine below_drewN ?_ _) | (with_reducible refine le_drewN _ ?_) | (with_reducible refine Below.setCell ?_ ?_ _) | (with_reducible exact Nat.le_refl _) | (with_reducible refine le_ext _ ?_) | (with_reducible refine le_alloc _ ?_) | (with_reducible refine le_setCell _ _ ?_) | (with_reducible refine le_drew ?_) | omega | (simp; done) | (simp; omega)))))⟩
end Go.Proofs.Ytelhidonhldjeaa
