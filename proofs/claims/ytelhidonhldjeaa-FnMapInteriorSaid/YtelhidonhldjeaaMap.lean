
/- Linear maps of points: the program's and the reference's; the draw of a matrix and a polygon. -/
import Derived.Test.YtelhidonhldjeaaPickM
import Derived.Test.YtelhidonhldjeaaDrawA
import Derived.Test.YtelhidonhldjeaaSimI
set_option linter.unusedVariables false
set_option linter.unusedSimpArgs false
namespace Go.Proofs.Ytelhidonhldjeaa
open Go.RowKit

def mvB (m : Mt) : Bool := inB m.a (-1000) 1000 && inB m.b (-1000) 1000 && inB m.c (-1000) 1000 && inB m.d (-1000) 1000
def mapOk (m : Mt) (ps : List Pt) : Bool := listOk ps && listOk (ps.map m.ap)
def mapL (m : Mt) (ps : List Pt) : List Pt := if mapOk m ps then ps.map m.ap else []
theorem inB_of {x : Int} (h : -1000 ≤ x ∧ x ≤ 1000) : inB x (-1000) 1000 = true := inB_iff.2 h
set_option maxHeartbeats 400000 in
theorem ivalidM_any (a b c d : Int) (w : World) (ha : -1000 ≤ a ∧ a ≤ 1000) (hb : -1000 ≤ b ∧ b ≤ 1000) (hc : -1000 ≤ c ∧ c ≤ 1000) (hd : -1000 ≤ d ∧ d ≤ 1000) : Calls Try.prog 56 #[.agg #[.int .i64 a, .int .i64 b, .int .i64 c, .int .i64 d]] w fun e w' => e = .returned (.bool true) ∧ ∃ n, w' = ext w n := by
  have h1 := inB_of ha
  have h2 := inB_of hb
  have h3 := inB_of hc
  have h4 := inB_of hd
  go_enter Try.func56, Try.ntmps56
  go_wp2_with fail
  refine (within_any _ _ _ _).mono ?_
  rintro e w' ⟨rfl, rfl⟩
  go_wp2_with fail
  refine (within_any _ _ _ _).mono ?_
  rintro e w' ⟨rfl, rfl⟩
  go_wp2_with fail
  refine (within_any _ _ _ _).mono ?_
  rintro e w' ⟨rfl, rfl⟩
  go_wp2_with fail
  refine (within_any _ _ _ _).mono ?_
  rintro e w' ⟨rfl, rfl⟩
  go_wp2_with fail
  go_ret
  exact ⟨ret_bool (by simp [*]), (ext_mk (by (repeat' (first | (with_reducible exact Below.refl _ _) | (with_reducible assumption) | (with_reducible refine below_ext _ ?_ ?_) | (with_reducible refine Below.alloc ?_ ?_ _) | (with_reducible refine Below.drew ?_) | (with_reducible refine below_drewN ?_ _) | (with_reducible refine le_drewN _ ?_) | (with_reducible refine Below.setCell ?_ ?_ _) | (with_reducible exact Nat.le_refl _) | (with_reducible refine le_ext _ ?_) | (with_reducible refine le_alloc _ ?_) | (with_reducible refine le_setCell _ _ ?_) | (with_reducible refine le_drew ?_) | omega | (simp; done) | (simp; omega)))))⟩
set_option maxHeartbeats 400000 in
theorem svalidM_any (a b c d : Int) (w : World) (ha : -1000 ≤ a ∧ a ≤ 1000) (hb : -1000 ≤ b ∧ b ≤ 1000) (hc : -1000 ≤ c ∧ c ≤ 1000) (hd : -1000 ≤ d ∧ d ≤ 1000) : Calls Try.prog 59 #[.agg #[.int .i64 a, .int .i64 b, .int .i64 c, .int .i64 d]] w fun e w' => e = .returned (.bool true) ∧ ∃ n, w' = ext w n := by
  have h1 := inB_of ha
  have h2 := inB_of hb
  have h3 := inB_of hc
  have h4 := inB_of hd
  go_enter Try.func59, Try.ntmps59
  go_wp2_with fail
  refine (inRange_any _ _ _ _).mono ?_
  rintro e w' ⟨rfl, rfl⟩
  go_wp2_with fail
  refine (inRange_any _ _ _ _).mono ?_
  rintro e w' ⟨rfl, rfl⟩
  go_wp2_with fail
  refine (inRange_any _ _ _ _).mono ?_
  rintro e w' ⟨rfl, rfl⟩
  go_wp2_with fail
  refine (inRange_any _ _ _ _).mono ?_
  rintro e w' ⟨rfl, rfl⟩
  go_wp2_with fail
  go_ret
  exact ⟨ret_bool (by simp [*]), (ext_mk (by (repeat' (first | (with_reducible exact Below.refl _ _) | (with_reducible assumption) | (with_reducible refine below_ext _ ?_ ?_) | (with_reducible refine Below.alloc ?_ ?_ _) | (with_reducible refine Below.drew ?_) | (with_reducible refine below_drewN ?_ _) | (with_reducible refine le_drewN _ ?_) | (with_reducible refine Below.setCell ?_ ?_ _) | (with_reducible exact Nat.le_refl _) | (with_reducible refine le_ext _ ?_) | (with_reducible refine le_alloc _ ?_) | (with_reducible refine le_setCell _ _ ?_) | (with_reducible refine le_drew ?_) | omega | (simp; done) | (simp; omega)))))⟩
set_option maxHeartbeats 400000 in
theorem times_any (a b c d x y : Int) (w : World) (ha : -1000 ≤ a ∧ a ≤ 1000) (hb : -1000 ≤ b ∧ b ≤ 1000) (hc : -1000 ≤ c ∧ c ≤ 1000) (hd : -1000 ≤ d ∧ d ≤ 1000) (hx : -100000 ≤ x ∧ x ≤ 100000) (hy : -100000 ≤ y ∧ y ≤ 100000) : Calls Try.prog 58 #[.agg #[.int .i64 a, .int .i64 b, .int .i64 c, .int .i64 d], .agg #[.int .i64 x, .int .i64 y]] w fun e w' => e = .returned (.agg #[.int .i64 (a * x + b * y), .int .i64 (c * x + d * y)]) ∧ ∃ n, w' = ext w n := by
  have m1 := mul_bd ha hx
  have m2 := mul_bd hb hy
  have m3 := mul_bd hc hx
  have m4 := mul_bd hd hy
  go_enter Try.func58, Try.ntmps58
  go_wp2_with fail
  ((try simp only [Exit.inBlock, Exit.then]); refine bodyPost_ret (by simp [results, Try.results58, go_sem, ↓IntWalk.iteOmega]; try rfl) rfl ?_)
  exact ⟨rfl, (ext_mk (by (repeat' (first | (with_reducible exact Below.refl _ _) | (with_reducible assumption) | (with_reducible refine below_ext _ ?_ ?_) | (with_reducible refine Below.alloc ?_ ?_ _) | (with_reducible refine Below.drew ?_) | (with_reducible refine below_drewN ?_ _) | (with_reducible refine le_drewN _ ?_) | (with_reducible refine Below.setCell ?_ ?_ _) | (with_reducible exact Nat.le_refl _) | (with_reducible refine le_ext _ ?_) | (with_reducible refine le_alloc _ ?_) | (with_reducible refine le_setCell _ _ ?_) | (with_reducible refine le_drew ?_) | omega | (simp; done) | (simp; omega)))))⟩
set_option maxHeartbeats 400000 in
theorem apply_any (a b c d x y : Int) (w : World) (ha : -1000 ≤ a ∧ a ≤ 1000) (hb : -1000 ≤ b ∧ b ≤ 1000) (hc : -1000 ≤ c ∧ c ≤ 1000) (hd : -1000 ≤ d ∧ d ≤ 1000) (hx : -100000 ≤ x ∧ x ≤ 100000) (hy : -100000 ≤ y ∧ y ≤ 100000) : Calls Try.prog 61 #[.agg #[.int .i64 a, .int .i64 b, .int .i64 c, .int .i64 d], .agg #[.int .i64 x, .int .i64 y]] w fun e w' => e = .returned (.agg #[.int .i64 (a * x + b * y), .int .i64 (c * x + d * y)]) ∧ ∃ n, w' = ext w n := by
  have m1 := mul_bd ha hx
  have m2 := mul_bd hb hy
  have m3 := mul_bd hc hx
  have m4 := mul_bd hd hy
  go_enter Try.func61, Try.ntmps61
  go_wp2_with fail
  ((try simp only [Exit.inBlock, Exit.then]); refine bodyPost_ret (by simp [results, Try.results61, go_sem, ↓IntWalk.iteOmega]; try rfl) rfl ?_)
  exact ⟨rfl, (ext_mk (by (repeat' (first | (with_reducible exact Below.refl _ _) | (with_reducible assumption) | (with_reducible refine below_ext _ ?_ ?_) | (with_reducible refine Below.alloc ?_ ?_ _) | (with_reducible refine Below.drew ?_) | (with_reducible refine below_drewN ?_ _) | (with_reducible refine le_drewN _ ?_) | (with_reducible refine Below.setCell ?_ ?_ _) | (with_reducible exact Nat.le_refl _) | (with_reducible refine le_ext _ ?_) | (with_reducible refine le_alloc _ ?_) | (with_reducible refine le_setCell _ _ ?_) | (with_reducible refine le_drew ?_) | omega | (simp; done) | (simp; omega)))))⟩
set_option maxHeartbeats 400000 in
theorem det_any (a b c d : Int) (w : World) (ha : -1000 ≤ a ∧ a ≤ 1000) (hb : -1000 ≤ b ∧ b ≤ 1000) (hc : -1000 ≤ c ∧ c ≤ 1000) (hd : -1000 ≤ d ∧ d ≤ 1000) : Calls Try.prog 22 #[.agg #[.int .i64 a, .int .i64 b, .int .i64 c, .int .i64 d]] w fun e w' => e = .returned (.int .i64 (a * d - b * c)) ∧ ∃ n, w' = ext w n := by
  have m1 := mul_bd ha hd
  have m2 := mul_bd hb hc
  have HVM := hide (fun W => ivalidM_any a b c d W ha hb hc hd)
  go_enter Try.func22, Try.ntmps22
  go_wp2_with fail
  refine (HVM.out _).mono ?_
  rintro e w' ⟨rfl, hw'⟩; have hzy := ext_sz hw'; obtain ⟨y, rfl⟩ := hw'; (try simp at hzy)
  go_wp2_with fail
  go_ret
  exact ⟨rfl, (ext_mk (by (repeat' (first | (with_reducible exact Below.refl _ _) | (with_reducible assumption) | (with_reducible refine below_ext _ ?_ ?_) | (with_reducible refine Below.alloc ?_ ?_ _) | (with_reducible refine Below.drew ?_) | (with_reducible refine below_drewN ?_ _) | (with_reducible refine le_drewN _ ?_) | (with_reducible refine Below.setCell ?_ ?_ _) | (with_reducible exact Nat.le_refl _) | (with_reducible refine le_ext _ ?_) | (with_reducible refine le_alloc _ ?_) | (with_reducible refine le_setCell _ _ ?_) | (with_reducible refine le_drew ?_) | omega | (simp; done) | (simp; omega)))))⟩
theorem mapOk_1 {m : Mt} {ps : List Pt} (h : listOk ps = false) : mapOk m ps = false ∧ mapL m ps = [] := by
  have : mapOk m ps = false := by unfold mapOk; rw [h]; rfl
  exact ⟨this, by unfold mapL; rw [this]; rfl⟩
theorem mapOk_2 {m : Mt} {ps : List Pt} (h : listOk (ps.map m.ap) = false) : mapOk m ps = false ∧ mapL m ps = [] := by
  have : mapOk m ps = false := by unfold mapOk; rw [h, Bool.and_false]
  exact ⟨this, by unfold mapL; rw [this]; rfl⟩
theorem mapOk_3 {m : Mt} {ps : List Pt} (h : listOk ps = true) (h2 : listOk (ps.map m.ap) = true) : mapOk m ps = true ∧ mapL m ps = ps.map m.ap := by
  have : mapOk m ps = true := by unfold mapOk; rw [h, h2]; rfl
  exact ⟨this, by unfold mapL; rw [this]; rfl⟩
theorem ap_take {m : Mt} {ps : List Pt} {k : Nat} (hk : k < ps.length) : (ps.take (k + 1)).map m.ap = (ps.take k).map m.ap ++ [⟨m.a * pX ps k + m.b * pY ps k, m.c * pX ps k + m.d * pY ps k⟩] := by
  rw [List.take_succ_eq_append_getElem hk, List.map_append, ← gp_lt hk]; rfl
set_option maxHeartbeats 2000000 in
theorem iMap_any (ps : List Pt) (a b c d : Int) (A : Option Addr) (n k0 : Nat) (w : World) (ha : -1000 ≤ a ∧ a ≤ 1000) (hb : -1000 ≤ b ∧ b ≤ 1000) (hc : -1000 ≤ c ∧ c ≤ 1000) (hd : -1000 ≤ d ∧ d ≤ 1000) (hn : ps.length = n) (hm : n ≤ 1000) (hs : PtsAt w w.heap.size A ps) :
    Calls Try.prog 18 #[.agg #[.int .i64 a, .int .i64 b, .int .i64 c, .int .i64 d], .slice A n k0] w fun e w' => ∃ v, e = .returned (.tuple #[v, .bool (mapOk ⟨a, b, c, d⟩ ps)]) ∧ OwnP w' w.heap.size v (mapL ⟨a, b, c, d⟩ ps) ∧ ∃ x, w' = ext w x := by
  have HVM := hide (fun W => ivalidM_any a b c d W ha hb hc hd)
  have HC := hide (fun (W : World) (hb : Below w.heap.size w W) => listOk_any ps A n k0 W hn (by omega) (hs.to hb))
  by_cases hok : listOk ps = true
  · rw [hok] at HC
    have HN := hide hn
    have HS := hide hs
    obtain ⟨hib, h20⟩ := listOk_InB hok
    have BI : Hid (∀ i, i < n → (-100000 ≤ (pX ps i) ∧ (pX ps i) ≤ 100000) ∧ (-100000 ≤ (pY ps i) ∧ (pY ps i) ≤ 100000)) := hide (fun i hi => hib _ (gp_mem (by omega)))
    have TT := hide (fun (x y : Int) (hx : -100000 ≤ x ∧ x ≤ 100000) (hy : -100000 ≤ y ∧ y ≤ 100000) W => times_any a b c d x y W ha hb hc hd hx hy)
    have M2 := hide (fun h => mapOk_2 (m := ⟨a, b, c, d⟩) (ps := ps) h)
    have M3 := hide (fun h => mapOk_3 (m := ⟨a, b, c, d⟩) (ps := ps) hok h)
    have TK := hide (fun (k : Nat) (hk : k < n) => ap_take (m := ⟨a, b, c, d⟩) (ps := ps) (k := k) (by omega))
    have k20 : n ≤ 20 := by omega
    obtain ⟨i0, hi, hz0, hz1, hz2⟩ := info_parts ptElt.inf
    have IP := hide (And.intro hi (And.intro hz0 (And.intro hz1 hz2)))
    clear hi hz0 hz1 hz2
    have mk1 : i0.bytes * n ≤ 281474976710656 := by rw [IP.out.2.2.2]; omega
    have mk2 : n ≤ maxLen := by unfold maxLen; omega
    clear hok hn hs hib h20 ha hb hc hd
    go_enter Try.func18, Try.ntmps18
    go_wp2_with fail
    refine (HVM.out _).mono ?_
    rintro e w' ⟨rfl, hw'⟩; have hzy1 := ext_sz hw'; obtain ⟨y1, rfl⟩ := hw'; (try simp at hzy1)
    go_wp2_with fail
    refine (HC.out _ (by (repeat' (first | (with_reducible exact Below.refl _ _) | (with_reducible assumption) | (with_reducible refine below_ext _ ?_ ?_) | (with_reducible refine Below.alloc ?_ ?_ _) | (with_reducible refine Below.drew ?_) | (with_reducible refine below_drewN ?_ _) | (with_reducible refine le_drewN _ ?_) | (with_reducible refine Below.setCell ?_ ?_ _) | (with_reducible exact Nat.le_refl _) | (with_reducible refine le_ext _ ?_) | (with_reducible refine le_alloc _ ?_) | (with_reducible refine le_setCell _ _ ?_) | (with_reducible refine le_drew ?_) | omega | (simp; done) | (simp; omega))))).mono ?_
    rintro e w' ⟨rfl, hw'⟩; have hzy2 := ext_sz hw'; obtain ⟨y2, rfl⟩ := hw'; (try simp at hzy2)
    have BX := hide ((Below.block (show Below (w.alloc (.cells #[.int .i64 a, .int .i64 b, .int .i64 c, .int .i64 d] 29)).heap.size (w.alloc (.cells #[.int .i64 a, .int .i64 b, .int .i64 c, .int .i64 d] 29)) (ext (ext (w.alloc (.cells #[.int .i64 a, .int .i64 b, .int .i64 c, .int .i64 d] 29)) y1) y2) from (by (repeat' (first | (with_reducible exact Below.refl _ _) | (with_reducible assumption) | (with_reducible refine below_ext _ ?_ ?_) | (with_reducible refine Below.alloc ?_ ?_ _) | (with_reducible refine Below.drew ?_) | (with_reducible refine below_drewN ?_ _) | (with_reducible refine le_drewN _ ?_) | (with_reducible refine Below.setCell ?_ ?_ _) | (with_reducible exact Nat.le_refl _) | (with_reducible refine le_ext _ ?_) | (with_reducible refine le_alloc _ ?_) | (with_reducible refine le_setCell _ _ ?_) | (with_reducible refine le_drew ?_) | omega | (simp; done) | (simp; omega))))) w.heap.size (by simp)).trans (heap_alloc_new w (.cells #[.int .i64 a, .int .i64 b, .int .i64 c, .int .i64 d] 29)))
    have BW := hide (show Below w.heap.size w (ext (ext (w.alloc (.cells #[.int .i64 a, .int .i64 b, .int .i64 c, .int .i64 d] 29)) y1) y2) from (by (repeat' (first | (with_reducible exact Below.refl _ _) | (with_reducible assumption) | (with_reducible refine below_ext _ ?_ ?_) | (with_reducible refine Below.alloc ?_ ?_ _) | (with_reducible refine Below.drew ?_) | (with_reducible refine below_drewN ?_ _) | (with_reducible refine le_drewN _ ?_) | (with_reducible refine Below.setCell ?_ ?_ _) | (with_reducible exact Nat.le_refl _) | (with_reducible refine le_ext _ ?_) | (with_reducible refine le_alloc _ ?_) | (with_reducible refine le_setCell _ _ ?_) | (with_reducible refine le_drew ?_) | omega | (simp; done) | (simp; omega)))))
    have sw : w.heap.size + 1 ≤ (ext (ext (w.alloc (.cells #[.int .i64 a, .int .i64 b, .int .i64 c, .int .i64 d] 29)) y1) y2).heap.size := by omega
    generalize ext (ext (w.alloc (.cells #[.int .i64 a, .int .i64 b, .int .i64 c, .int .i64 d] 29)) y1) y2 = W1 at *
    go_wp2_with (refine wpList_make_own _ rfl (.const (.int .i64 0)) (.tmp 18) 23 rfl W1.heap.size 39 i0 _ 2 ptElt.und IP.out.1 IP.out.2.1 IP.out.2.2.1 .i64 .i64 _ n rfl rfl rfl mk1 mk2 (Nat.le_refl _) ?_; intro w1 hown1 hgr1; have O1 := hide (show OwnP w1 W1.heap.size _ [] from hown1); have B1 := hide ((Below.refl _ _).grown hgr1 (Nat.le_refl _) (fun k hk => by cases hk)); clear hown1 hgr1)
    go_loopw [6, 22] (fun u6 u22 wr => ∃ (k : Nat), k ≤ n ∧ u22 = .int .i64 k ∧ OwnP wr W1.heap.size u6 ((ps.take k).map (Mt.ap ⟨a, b, c, d⟩)) ∧ Below W1.heap.size W1 wr) (fun _ u22 _ => n - (intOf u22).toNat)
    case atStart => exact ⟨0, Nat.zero_le _, rfl, O1.out.below (by (repeat' (first | (with_reducible exact Below.refl _ _) | (with_reducible assumption) | (with_reducible refine below_ext _ ?_ ?_) | (with_reducible refine Below.alloc ?_ ?_ _) | (with_reducible refine Below.drew ?_) | (with_reducible refine below_drewN ?_ _) | (with_reducible refine le_drewN _ ?_) | (with_reducible refine Below.setCell ?_ ?_ _) | (with_reducible exact Nat.le_refl _) | (with_reducible refine le_ext _ ?_) | (with_reducible refine le_alloc _ ?_) | (with_reducible refine le_setCell _ _ ?_) | (with_reducible refine le_drew ?_) | omega | (simp; done) | (simp; omega)))), Below.trans B1.out (by (repeat' (first | (with_reducible exact Below.refl _ _) | (with_reducible assumption) | (with_reducible refine below_ext _ ?_ ?_) | (with_reducible refine Below.alloc ?_ ?_ _) | (with_reducible refine Below.drew ?_) | (with_reducible refine below_drewN ?_ _) | (with_reducible refine le_drewN _ ?_) | (with_reducible refine Below.setCell ?_ ?_ _) | (with_reducible exact Nat.le_refl _) | (with_reducible refine le_ext _ ?_) | (with_reducible refine le_alloc _ ?_) | (with_reducible refine le_setCell _ _ ?_) | (with_reducible refine le_drew ?_) | omega | (simp; done) | (simp; omega))))⟩
    case round =>
      obtain ⟨k, hk, rfl, hown, hbel⟩ := hrel
      obtain ⟨A0, n0, c0, rfl⟩ := hown.slice
      have hsz := hbel.size
      have OWN0 := hide hown
      clear hown
      have bx := (hbel.block w.heap.size (by omega)).trans BX.out
      have t0 := heap_cell bx 0
      have t1 := heap_cell bx 1
      have t2 := heap_cell bx 2
      have t3 := heap_cell bx 3
      simp at t0 t1 t2 t3
      clear bx
      by_cases hlt : k < n
      · obtain ⟨b1, o1, rfl, hbl1, hc1⟩ := HS.out (by rw [HN.out]; omega)
        obtain ⟨hx0, hy0⟩ := hc1 k (by rw [HN.out]; omega)
        obtain ⟨⟨p1, p2⟩, p3, p4⟩ := BI.out k hlt
        have hbb := BW.out.trans (hbel.mono BW.out.size)
        have hx := (hbb.cell (p := ⟨b1, o1 + k * 2, none⟩) hbl1).trans hx0
        have hy := (hbb.cell (p := ⟨b1, o1 + k * 2 + 1, none⟩) hbl1).trans hy0
        clear hc1 hx0 hy0
        have NX := hide (TK.out k hlt)
        have NL : ((ps.take k).map (Mt.ap ⟨a, b, c, d⟩)).length ≤ 2000000 := by rw [List.length_map, List.length_take]; omega
        have TX := hide (fun W => TT.out (pX ps k) (pY ps k) ⟨p1, p2⟩ ⟨p3, p4⟩ W)
        generalize pX ps k = X at *
        generalize pY ps k = Y at *
        go_wp2_with fail
        refine (TX.out _).mono ?_
        rintro e w' ⟨rfl, hw'⟩; have hzy3 := ext_sz hw'; obtain ⟨y3, rfl⟩ := hw'; (try simp at hzy3)
        go_wp2_with (at_builtin; refine app_pt rfl _ _ rfl W1.heap.size (.slice A0 n0 c0) ((ps.take k).map (Mt.ap ⟨a, b, c, d⟩)) rfl (OWN0.out.below (by (repeat' (first | (with_reducible exact Below.refl _ _) | (with_reducible assumption) | (with_reducible refine below_ext _ ?_ ?_) | (with_reducible refine Below.alloc ?_ ?_ _) | (with_reducible refine Below.drew ?_) | (with_reducible refine below_drewN ?_ _) | (with_reducible refine le_drewN _ ?_) | (with_reducible refine Below.setCell ?_ ?_ _) | (with_reducible exact Nat.le_refl _) | (with_reducible refine le_ext _ ?_) | (with_reducible refine le_alloc _ ?_) | (with_reducible refine le_setCell _ _ ?_) | (with_reducible refine le_drew ?_) | omega | (simp; done) | (simp; omega))))) (a * X + b * Y) (c * X + d * Y) _ _ rfl (by simp [go_sem]) (by simp [go_sem]) NL (by simp; omega) ?_; intro v' w' hown' hb' hat hgr; obtain ⟨A4, n4, c4, rfl⟩ := hown'.slice; have O4 := hide hown'; clear hown' hat hgr)
        exact ⟨⟨k + 1, by omega, by go_num, by rw [NX.out]; exact O4.out, Below.trans (Below.trans hbel (by (repeat' (first | (with_reducible exact Below.refl _ _) | (with_reducible assumption) | (with_reducible refine below_ext _ ?_ ?_) | (with_reducible refine Below.alloc ?_ ?_ _) | (with_reducible refine Below.drew ?_) | (with_reducible refine below_drewN ?_ _) | (with_reducible refine le_drewN _ ?_) | (with_reducible refine Below.setCell ?_ ?_ _) | (with_reducible exact Nat.le_refl _) | (with_reducible refine le_ext _ ?_) | (with_reducible refine le_alloc _ ?_) | (with_reducible refine le_setCell _ _ ?_) | (with_reducible refine le_drew ?_) | omega | (simp; done) | (simp; omega))))) hb'⟩, by simp [intOf]; omega⟩
      · have e0 : ps.take k = ps := List.take_of_length_le (by rw [HN.out]; omega)
        have OWN1 : Hid (OwnP wr W1.heap.size (.slice A0 n0 c0) (ps.map (Mt.ap ⟨a, b, c, d⟩))) := hide (by have := OWN0.out; rw [e0] at this; exact this)
        clear e0 OWN0
        have l0 := hide OWN1.out.pts.1
        have l0b : n0 ≤ 20 := by have := l0.out; rw [List.length_map, HN.out] at this; omega
        have P2 := hide OWN1.out.pts.2.2.2
        have HC2 := hide (listOk_any (ps.map (Mt.ap ⟨a, b, c, d⟩)) A0 n0 c0 wr l0.out (by omega) P2.out)
        have BF := hide (BW.out.trans (hbel.mono BW.out.size))
        have O5 := hide (OWN1.out.base (show w.heap.size ≤ W1.heap.size by omega))
        clear OWN1 t0 t1 t2 t3
        by_cases hok2 : listOk (ps.map (Mt.ap ⟨a, b, c, d⟩)) = true
        · obtain ⟨m1, m2⟩ := M3.out hok2
          rw [hok2] at HC2
          have MM := hide (And.intro m1 m2)
          clear hok2 m1 m2 M2 M3
          go_wp2_with fail
          refine HC2.out.mono ?_
          rintro e w' ⟨rfl, hw'⟩; have hzy5 := ext_sz hw'; obtain ⟨y5, rfl⟩ := hw'; (try simp at hzy5)
          go_wp2
          go_ret2
          rw [MM.out.1, MM.out.2]
          exact ⟨_, rfl, O5.out.below (by (repeat' (first | (with_reducible exact Below.refl _ _) | (with_reducible assumption) | (with_reducible refine below_ext _ ?_ ?_) | (with_reducible refine Below.alloc ?_ ?_ _) | (with_reducible refine Below.drew ?_) | (with_reducible refine below_drewN ?_ _) | (with_reducible refine le_drewN _ ?_) | (with_reducible refine Below.setCell ?_ ?_ _) | (with_reducible exact Nat.le_refl _) | (with_reducible refine le_ext _ ?_) | (with_reducible refine le_alloc _ ?_) | (with_reducible refine le_setCell _ _ ?_) | (with_reducible refine le_drew ?_) | omega | (simp; done) | (simp; omega)))), ext_mk (BF.out.trans (Below.mono (show Below wr.heap.size wr _ from (by (repeat' (first | (with_reducible exact Below.refl _ _) | (with_reducible assumption) | (with_reducible refine below_ext _ ?_ ?_) | (with_reducible refine Below.alloc ?_ ?_ _) | (with_reducible refine Below.drew ?_) | (with_reducible refine below_drewN ?_ _) | (with_reducible refine le_drewN _ ?_) | (with_reducible refine Below.setCell ?_ ?_ _) | (with_reducible exact Nat.le_refl _) | (with_reducible refine le_ext _ ?_) | (with_reducible refine le_alloc _ ?_) | (with_reducible refine le_setCell _ _ ?_) | (with_reducible refine le_drew ?_) | omega | (simp; done) | (simp; omega))))) BF.out.size))⟩
        · obtain ⟨m1, m2⟩ := M2.out (eq_false_of_ne_true hok2)
          rw [eq_false_of_ne_true hok2] at HC2
          have MM := hide (And.intro m1 m2)
          clear hok2 m1 m2 M2 M3
          go_wp2_with fail
          refine HC2.out.mono ?_
          rintro e w' ⟨rfl, hw'⟩; have hzy5 := ext_sz hw'; obtain ⟨y5, rfl⟩ := hw'; (try simp at hzy5)
          go_wp2
          go_ret2
          rw [MM.out.1, MM.out.2]
          exact ⟨_, rfl, OwnP.nil _ _, ext_mk (BF.out.trans (Below.mono (show Below wr.heap.size wr _ from (by (repeat' (first | (with_reducible exact Below.refl _ _) | (with_reducible assumption) | (with_reducible refine below_ext _ ?_ ?_) | (with_reducible refine Below.alloc ?_ ?_ _) | (with_reducible refine Below.drew ?_) | (with_reducible refine below_drewN ?_ _) | (with_reducible refine le_drewN _ ?_) | (with_reducible refine Below.setCell ?_ ?_ _) | (with_reducible exact Nat.le_refl _) | (with_reducible refine le_ext _ ?_) | (with_reducible refine le_alloc _ ?_) | (with_reducible refine le_setCell _ _ ?_) | (with_reducible refine le_drew ?_) | omega | (simp; done) | (simp; omega))))) BF.out.size))⟩
  · rw [eq_false_of_ne_true hok] at HC
    obtain ⟨m1, m2⟩ := mapOk_1 (m := ⟨a, b, c, d⟩) (eq_false_of_ne_true hok)
    have MM := hide (And.intro m1 m2)
    clear hok hn hs m1 m2 ha hb hc hd
    go_enter Try.func18, Try.ntmps18
    go_wp2_with fail
    refine (HVM.out _).mono ?_
    rintro e w' ⟨rfl, hw'⟩; have hzy1 := ext_sz hw'; obtain ⟨y1, rfl⟩ := hw'; (try simp at hzy1)
    go_wp2_with fail
    refine (HC.out _ (by (repeat' (first | (with_reducible exact Below.refl _ _) | (with_reducible assumption) | (with_reducible refine below_ext _ ?_ ?_) | (with_reducible refine Below.alloc ?_ ?_ _) | (with_reducible refine Below.drew ?_) | (with_reducible refine below_drewN ?_ _) | (with_reducible refine le_drewN _ ?_) | (with_reducible refine Below.setCell ?_ ?_ _) | (with_reducible exact Nat.le_refl _) | (with_reducible refine le_ext _ ?_) | (with_reducible refine le_alloc _ ?_) | (with_reducible refine le_setCell _ _ ?_) | (with_reducible refine le_drew ?_) | omega | (simp; done) | (simp; omega))))).mono ?_
    rintro e w' ⟨rfl, hw'⟩; have hzy2 := ext_sz hw'; obtain ⟨y2, rfl⟩ := hw'; (try simp at hzy2)
    go_wp2
    go_ret2
    rw [MM.out.1, MM.out.2]
    exact ⟨_, rfl, OwnP.nil _ _, (ext_mk (by (repeat' (first | (with_reducible exact Below.refl _ _) | (with_reducible assumption) | (with_reducible refine below_ext _ ?_ ?_) | (with_reducible refine Below.alloc ?_ ?_ _) | (with_reducible refine Below.drew ?_) | (with_reducible refine below_drewN ?_ _) | (with_reducible refine le_drewN _ ?_) | (with_reducible refine Below.setCell ?_ ?_ _) | (with_reducible exact Nat.le_refl _) | (with_reducible refine le_ext _ ?_) | (with_reducible refine le_alloc _ ?_) | (with_reducible refine le_setCell _ _ ?_) | (with_reducible refine le_drew ?_) | omega | (simp; done) | (simp; omega)))))⟩
set_option maxRecDepth 20000 in
set_option maxHeartbeats 2000000 in
theorem sMap_any (ps : List Pt) (a b c d : Int) (A : Option Addr) (n k0 : Nat) (w : World) (ha : -1000 ≤ a ∧ a ≤ 1000) (hb : -1000 ≤ b ∧ b ≤ 1000) (hc : -1000 ≤ c ∧ c ≤ 1000) (hd : -1000 ≤ d ∧ d ≤ 1000) (hn : ps.length = n) (hm : n ≤ 1000) (hs : PtsAt w w.heap.size A ps) :
    Calls Try.prog 19 #[.agg #[.int .i64 a, .int .i64 b, .int .i64 c, .int .i64 d], .slice A n k0] w fun e w' => ∃ v, e = .returned (.tuple #[v, .bool (mapOk ⟨a, b, c, d⟩ ps)]) ∧ OwnP w' w.heap.size v (mapL ⟨a, b, c, d⟩ ps) ∧ ∃ x, w' = ext w x := by
  have HVM := hide (fun W => svalidM_any a b c d W ha hb hc hd)
  have HC := hide (fun (W : World) (hb : Below w.heap.size w W) => validPoints_any ps A n k0 W hn (by omega) (hs.to hb))
  have O1 : Hid (∀ o : Obj, OwnP ((w.alloc o).alloc (.cells #[] 39)) (w.heap.size + 1) (.slice (some ⟨w.heap.size + 1, 0, none⟩) 0 0) []) := hide (fun o => by
    have h := OwnP.empty (w.alloc o) (w.heap.size + 1) 0 (by simp) #[] rfl (by simp [maxLen])
    rw [size_alloc] at h
    exact h)
  have BX1 : Hid (∀ o1 o2 : Obj, ((w.alloc o1).alloc o2).heap[w.heap.size]? = some o1) := hide (fun o1 o2 => by
    rw [Below.heap_alloc _ _ _ (by first | (simp; done) | (simp; omega))]
    exact heap_alloc_new _ _)
  by_cases hok : listOk ps = true
  · rw [hok] at HC
    have HN := hide hn
    have HS := hide hs
    obtain ⟨hib, h20⟩ := listOk_InB hok
    have BI : Hid (∀ i, i < n → (-100000 ≤ (pX ps i) ∧ (pX ps i) ≤ 100000) ∧ (-100000 ≤ (pY ps i) ∧ (pY ps i) ≤ 100000)) := hide (fun i hi => hib _ (gp_mem (by omega)))
    have TT := hide (fun (x y : Int) (hx : -100000 ≤ x ∧ x ≤ 100000) (hy : -100000 ≤ y ∧ y ≤ 100000) W => apply_any a b c d x y W ha hb hc hd hx hy)
    have M2 := hide (fun h => mapOk_2 (m := ⟨a, b, c, d⟩) (ps := ps) h)
    have M3 := hide (fun h => mapOk_3 (m := ⟨a, b, c, d⟩) (ps := ps) hok h)
    have TK := hide (fun (k : Nat) (hk : k < n) => ap_take (m := ⟨a, b, c, d⟩) (ps := ps) (k := k) (by omega))
    have k20 : n ≤ 20 := by omega
    clear hok hn hs hib h20 ha hb hc hd
    go_enter Try.func19, Try.ntmps19
    go_wp2_with fail
    refine (HVM.out _).mono ?_
    rintro e w' ⟨rfl, hw'⟩; have hzy1 := ext_sz hw'; obtain ⟨y1, rfl⟩ := hw'; (try simp at hzy1)
    go_wp2_with fail
    refine (HC.out _ (by (repeat' (first | (with_reducible exact Below.refl _ _) | (with_reducible assumption) | (with_reducible refine below_ext _ ?_ ?_) | (with_reducible refine Below.alloc ?_ ?_ _) | (with_reducible refine Below.drew ?_) | (with_reducible refine below_drewN ?_ _) | (with_reducible refine le_drewN _ ?_) | (with_reducible refine Below.setCell ?_ ?_ _) | (with_reducible exact Nat.le_refl _) | (with_reducible refine le_ext _ ?_) | (with_reducible refine le_alloc _ ?_) | (with_reducible refine le_setCell _ _ ?_) | (with_reducible refine le_drew ?_) | omega | (simp; done) | (simp; omega))))).mono ?_
    rintro e w' ⟨rfl, hw'⟩; have hzy2 := ext_sz hw'; obtain ⟨y2, rfl⟩ := hw'; (try simp at hzy2)
    have BW := hide (show Below w.heap.size w (ext (ext ((w.alloc (.cells #[.int .i64 a, .int .i64 b, .int .i64 c, .int .i64 d] 29)).alloc (.cells #[] 39)) y1) y2) from (by (repeat' (first | (with_reducible exact Below.refl _ _) | (with_reducible assumption) | (with_reducible refine below_ext _ ?_ ?_) | (with_reducible refine Below.alloc ?_ ?_ _) | (with_reducible refine Below.drew ?_) | (with_reducible refine below_drewN ?_ _) | (with_reducible refine le_drewN _ ?_) | (with_reducible refine Below.setCell ?_ ?_ _) | (with_reducible exact Nat.le_refl _) | (with_reducible refine le_ext _ ?_) | (with_reducible refine le_alloc _ ?_) | (with_reducible refine le_setCell _ _ ?_) | (with_reducible refine le_drew ?_) | omega | (simp; done) | (simp; omega)))))
    have BU := hide (show Below ((w.alloc (.cells #[.int .i64 a, .int .i64 b, .int .i64 c, .int .i64 d] 29)).alloc (.cells #[] 39)).heap.size ((w.alloc (.cells #[.int .i64 a, .int .i64 b, .int .i64 c, .int .i64 d] 29)).alloc (.cells #[] 39)) (ext (ext ((w.alloc (.cells #[.int .i64 a, .int .i64 b, .int .i64 c, .int .i64 d] 29)).alloc (.cells #[] 39)) y1) y2) from (by (repeat' (first | (with_reducible exact Below.refl _ _) | (with_reducible assumption) | (with_reducible refine below_ext _ ?_ ?_) | (with_reducible refine Below.alloc ?_ ?_ _) | (with_reducible refine Below.drew ?_) | (with_reducible refine below_drewN ?_ _) | (with_reducible refine le_drewN _ ?_) | (with_reducible refine Below.setCell ?_ ?_ _) | (with_reducible exact Nat.le_refl _) | (with_reducible refine le_ext _ ?_) | (with_reducible refine le_alloc _ ?_) | (with_reducible refine le_setCell _ _ ?_) | (with_reducible refine le_drew ?_) | omega | (simp; done) | (simp; omega)))))
    have BX := hide ((BU.out.block w.heap.size (by simp; omega)).trans (BX1.out _ _))
    have O2 := hide ((O1.out (.cells #[.int .i64 a, .int .i64 b, .int .i64 c, .int .i64 d] 29)).below BU.out)
    have sw : w.heap.size + 2 ≤ (ext (ext ((w.alloc (.cells #[.int .i64 a, .int .i64 b, .int .i64 c, .int .i64 d] 29)).alloc (.cells #[] 39)) y1) y2).heap.size := by omega
    generalize ext (ext ((w.alloc (.cells #[.int .i64 a, .int .i64 b, .int .i64 c, .int .i64 d] 29)).alloc (.cells #[] 39)) y1) y2 = W1 at *
    clear BU O1 BX1
    go_wp2_with fail
    go_loopw [6, 7] (fun u6 u7 wr => ∃ (k : Nat), k ≤ n ∧ u7 = .int .i64 k ∧ OwnP wr (w.heap.size + 1) u6 ((ps.take k).map (Mt.ap ⟨a, b, c, d⟩)) ∧ Below (w.heap.size + 1) W1 wr) (fun _ u7 _ => n - (intOf u7).toNat)
    case atStart => exact ⟨0, Nat.zero_le _, rfl, O2.out, Below.refl _ _⟩
    case round =>
      obtain ⟨k, hk, rfl, hown, hbel⟩ := hrel
      obtain ⟨A0, n0, c0, rfl⟩ := hown.slice
      have hsz := hbel.size
      have OWN0 := hide hown
      clear hown
      have bx := (hbel.block w.heap.size (by omega)).trans BX.out
      have t0 := heap_cell bx 0
      have t1 := heap_cell bx 1
      have t2 := heap_cell bx 2
      have t3 := heap_cell bx 3
      simp at t0 t1 t2 t3
      clear bx
      by_cases hlt : k < n
      · obtain ⟨b1, o1, rfl, hbl1, hc1⟩ := HS.out (by rw [HN.out]; omega)
        obtain ⟨hx0, hy0⟩ := hc1 k (by rw [HN.out]; omega)
        obtain ⟨⟨p1, p2⟩, p3, p4⟩ := BI.out k hlt
        have hbb := BW.out.trans (hbel.mono (show w.heap.size ≤ w.heap.size + 1 by omega))
        have hx := (hbb.cell (p := ⟨b1, o1 + k * 2, none⟩) hbl1).trans hx0
        have hy := (hbb.cell (p := ⟨b1, o1 + k * 2 + 1, none⟩) hbl1).trans hy0
        clear hc1 hx0 hy0
        have NX := hide (TK.out k hlt)
        have NL : ((ps.take k).map (Mt.ap ⟨a, b, c, d⟩)).length ≤ 2000000 := by rw [List.length_map, List.length_take]; omega
        have TX := hide (fun W => TT.out (pX ps k) (pY ps k) ⟨p1, p2⟩ ⟨p3, p4⟩ W)
        generalize pX ps k = X at *
        generalize pY ps k = Y at *
        have q3 : (0 : Int) ≤ (k : Int) := by omega
        have q4 : (k : Int) < (n : Int) := by omega
        have bl : b1 < wr.heap.size := by omega
        have LE : w.heap.size + 1 ≤ wr.heap.size := by omega
        have SC : Hid (∀ W : World, Below (w.heap.size + 1) wr W → W.cell? ⟨w.heap.size, 0, none⟩ = some (.int .i64 a) ∧ W.cell? ⟨w.heap.size, 1, none⟩ = some (.int .i64 b) ∧ W.cell? ⟨w.heap.size, 2, none⟩ = some (.int .i64 c) ∧ W.cell? ⟨w.heap.size, 3, none⟩ = some (.int .i64 d) ∧ W.cell? ⟨b1, o1 + k * 2, none⟩ = some (.int .i64 X) ∧ W.cell? ⟨b1, o1 + k * 2 + 1, none⟩ = some (.int .i64 Y)) := hide (fun W hW => ⟨(hW.cell (p := ⟨w.heap.size, 0, none⟩) (Nat.lt_succ_self _)).trans t0, (hW.cell (p := ⟨w.heap.size, 1, none⟩) (Nat.lt_succ_self _)).trans t1, (hW.cell (p := ⟨w.heap.size, 2, none⟩) (Nat.lt_succ_self _)).trans t2, (hW.cell (p := ⟨w.heap.size, 3, none⟩) (Nat.lt_succ_self _)).trans t3, (hW.cell (p := ⟨b1, o1 + k * 2, none⟩) (Nat.lt_succ_of_lt hbl1)).trans hx, (hW.cell (p := ⟨b1, o1 + k * 2 + 1, none⟩) (Nat.lt_succ_of_lt hbl1)).trans hy⟩)
        have OD : Hid (∀ W : World, Below wr.heap.size wr W → OwnP ((W.alloc (.cells #[.int .i64 (a * X + b * Y), .int .i64 (c * X + d * Y)] 39))) (w.heap.size + 1) (.slice A0 n0 c0) ((ps.take k).map (Mt.ap ⟨a, b, c, d⟩))) := hide (fun W hW => OWN0.out.below (hW.alloc hW.size _))
        have NC : Hid (∀ W : World, ((W.alloc (.cells #[.int .i64 (a * X + b * Y), .int .i64 (c * X + d * Y)] 39))).cell? ⟨W.heap.size, 0, none⟩ = some (.int .i64 (a * X + b * Y)) ∧ ((W.alloc (.cells #[.int .i64 (a * X + b * Y), .int .i64 (c * X + d * Y)] 39))).cell? ⟨W.heap.size, 1, none⟩ = some (.int .i64 (c * X + d * Y))) := hide (fun W => ⟨(heap_cell (heap_alloc_new W _) 0).trans rfl, (heap_cell (heap_alloc_new W _) 1).trans rfl⟩)
        have SZ : Hid (∀ (W : World) (o : Obj), Below wr.heap.size wr W → w.heap.size + 1 ≤ (W.alloc o).heap.size) := hide (fun W o hW => by have := hW.size; show w.heap.size + 1 ≤ (W.alloc o).heap.size; rw [size_alloc]; omega)
        have BD0 := hide (show Below wr.heap.size wr wr.drew from (by (repeat' (first | (with_reducible exact Below.refl _ _) | (with_reducible assumption) | (with_reducible refine below_ext _ ?_ ?_) | (with_reducible refine Below.alloc ?_ ?_ _) | (with_reducible refine Below.drew ?_) | (with_reducible refine below_drewN ?_ _) | (with_reducible refine le_drewN _ ?_) | (with_reducible refine Below.setCell ?_ ?_ _) | (with_reducible exact Nat.le_refl _) | (with_reducible refine le_ext _ ?_) | (with_reducible refine le_alloc _ ?_) | (with_reducible refine le_setCell _ _ ?_) | (with_reducible refine le_drew ?_) | omega | (simp; done) | (simp; omega)))))
        have BDA := hide (fun (W : World) (o : Obj) (hW : Below wr.heap.size wr W) => show Below wr.heap.size wr (W.alloc o) from (hW.alloc hW.size o))
        go_wp2_with fail
        go_region_held3 (fun W => W.cell? ⟨w.heap.size, 0, none⟩ = some (.int .i64 a) ∧ W.cell? ⟨w.heap.size, 1, none⟩ = some (.int .i64 b) ∧ W.cell? ⟨w.heap.size, 2, none⟩ = some (.int .i64 c) ∧ W.cell? ⟨w.heap.size, 3, none⟩ = some (.int .i64 d) ∧ W.cell? ⟨b1, o1 + k * 2, none⟩ = some (.int .i64 X) ∧ W.cell? ⟨b1, o1 + k * 2 + 1, none⟩ = some (.int .i64 Y)) (first | exact SC.out _ (BD0.out.mono LE) | exact SC.out _ (B6.out.mono LE) | exact SC.out _ ((BDA.out _ _ B6.out).mono LE) | exact SC.out _ B7.out) (first | (go_at_call 61; refine (TX.out _).mono ?_; rintro e w6 ⟨rfl, hx6⟩; have B6 := hide (BD0.out.trans (ext_bel hx6)); have hz6 := B6.out.size; clear hx6) | (refine step_pt (by rfl) (.tmp 23) (.tmp 30) (by rfl) (w.heap.size + 1) (.slice A0 n0 c0) ((ps.take k).map (Mt.ap ⟨a, b, c, d⟩)) (by rfl) (OD.out _ B6.out) (a * X + b * Y) (c * X + d * Y) (w6.heap.size) 1 (by rfl) (NC.out _).1 (NC.out _).2 NL (SZ.out _ _ B6.out) ?_; intro v7 w7 hown7 hb7 hat7 hgr7; obtain ⟨A7, n7, c7, rfl⟩ := hown7.slice; have O7 := hide hown7; have B7 := hide (((BDA.out _ _ B6.out).mono (show w.heap.size + 1 ≤ wr.heap.size by omega)).trans hb7); clear hown7 hat7 hgr7 hb7))
        go_wp2_with fail
        exact ⟨⟨k + 1, by omega, by go_num, by rw [NX.out]; exact O7.out, hbel.trans B7.out⟩, by simp [intOf]; omega⟩
      · have e0 : ps.take k = ps := List.take_of_length_le (by rw [HN.out]; omega)
        have OWN1 : Hid (OwnP wr (w.heap.size + 1) (.slice A0 n0 c0) (ps.map (Mt.ap ⟨a, b, c, d⟩))) := hide (by have := OWN0.out; rw [e0] at this; exact this)
        clear e0 OWN0
        have l0 := hide OWN1.out.pts.1
        have l0b : n0 ≤ 20 := by have := l0.out; rw [List.length_map, HN.out] at this; omega
        have P2 := hide OWN1.out.pts.2.2.2
        have HC2 := hide (validPoints_any (ps.map (Mt.ap ⟨a, b, c, d⟩)) A0 n0 c0 wr l0.out (by omega) P2.out)
        have BF := hide (BW.out.trans (hbel.mono (show w.heap.size ≤ w.heap.size + 1 by omega)))
        have O5 := hide (OWN1.out.base (show w.heap.size ≤ w.heap.size + 1 by omega))
        clear OWN1 t0 t1 t2 t3
        by_cases hok2 : listOk (ps.map (Mt.ap ⟨a, b, c, d⟩)) = true
        · obtain ⟨m1, m2⟩ := M3.out hok2
          rw [hok2] at HC2
          have MM := hide (And.intro m1 m2)
          clear hok2 m1 m2 M2 M3
          go_wp2_with fail
          refine HC2.out.mono ?_
          rintro e w' ⟨rfl, hw'⟩; have hzy5 := ext_sz hw'; obtain ⟨y5, rfl⟩ := hw'; (try simp at hzy5)
          go_wp2
          go_ret2
          rw [MM.out.1, MM.out.2]
          exact ⟨_, rfl, O5.out.below (by (repeat' (first | (with_reducible exact Below.refl _ _) | (with_reducible assumption) | (with_reducible refine below_ext _ ?_ ?_) | (with_reducible refine Below.alloc ?_ ?_ _) | (with_reducible refine Below.drew ?_) | (with_reducible refine below_drewN ?_ _) | (with_reducible refine le_drewN _ ?_) | (with_reducible refine Below.setCell ?_ ?_ _) | (with_reducible exact Nat.le_refl _) | (with_reducible refine le_ext _ ?_) | (with_reducible refine le_alloc _ ?_) | (with_reducible refine le_setCell _ _ ?_) | (with_reducible refine le_drew ?_) | omega | (simp; done) | (simp; omega)))), ext_mk (BF.out.trans (Below.mono (show Below wr.heap.size wr _ from (by (repeat' (first | (with_reducible exact Below.refl _ _) | (with_reducible assumption) | (with_reducible refine below_ext _ ?_ ?_) | (with_reducible refine Below.alloc ?_ ?_ _) | (with_reducible refine Below.drew ?_) | (with_reducible refine below_drewN ?_ _) | (with_reducible refine le_drewN _ ?_) | (with_reducible refine Below.setCell ?_ ?_ _) | (with_reducible exact Nat.le_refl _) | (with_reducible refine le_ext _ ?_) | (with_reducible refine le_alloc _ ?_) | (with_reducible refine le_setCell _ _ ?_) | (with_reducible refine le_drew ?_) | omega | (simp; done) | (simp; omega))))) BF.out.size))⟩
        · obtain ⟨m1, m2⟩ := M2.out (eq_false_of_ne_true hok2)
          rw [eq_false_of_ne_true hok2] at HC2
          have MM := hide (And.intro m1 m2)
          clear hok2 m1 m2 M2 M3
          go_wp2_with fail
          refine HC2.out.mono ?_
          rintro e w' ⟨rfl, hw'⟩; have hzy5 := ext_sz hw'; obtain ⟨y5, rfl⟩ := hw'; (try simp at hzy5)
          go_wp2
          go_ret2
          rw [MM.out.1, MM.out.2]
          exact ⟨_, rfl, OwnP.nil _ _, ext_mk (BF.out.trans (Below.mono (show Below wr.heap.size wr _ from (by (repeat' (first | (with_reducible exact Below.refl _ _) | (with_reducible assumption) | (with_reducible refine below_ext _ ?_ ?_) | (with_reducible refine Below.alloc ?_ ?_ _) | (with_reducible refine Below.drew ?_) | (with_reducible refine below_drewN ?_ _) | (with_reducible refine le_drewN _ ?_) | (with_reducible refine Below.setCell ?_ ?_ _) | (with_reducible exact Nat.le_refl _) | (with_reducible refine le_ext _ ?_) | (with_reducible refine le_alloc _ ?_) | (with_reducible refine le_setCell _ _ ?_) | (with_reducible refine le_drew ?_) | omega | (simp; done) | (simp; omega))))) BF.out.size))⟩
  · rw [eq_false_of_ne_true hok] at HC
    obtain ⟨m1, m2⟩ := mapOk_1 (m := ⟨a, b, c, d⟩) (eq_false_of_ne_true hok)
    have MM := hide (And.intro m1 m2)
    clear hok hn hs m1 m2 ha hb hc hd O1 BX1
    go_enter Try.func19, Try.ntmps19
    go_wp2_with fail
    refine (HVM.out _).mono ?_
    rintro e w' ⟨rfl, hw'⟩; have hzy1 := ext_sz hw'; obtain ⟨y1, rfl⟩ := hw'; (try simp at hzy1)
    go_wp2_with fail
    refine (HC.out _ (by (repeat' (first | (with_reducible exact Below.refl _ _) | (with_reducible assumption) | (with_reducible refine below_ext _ ?_ ?_) | (with_reducible refine Below.alloc ?_ ?_ _) | (with_reducible refine Below.drew ?_) | (with_reducible refine below_drewN ?_ _) | (with_reducible refine le_drewN _ ?_) | (with_reducible refine Below.setCell ?_ ?_ _) | (with_reducible exact Nat.le_refl _) | (with_reducible refine le_ext _ ?_) | (with_reducible refine le_alloc _ ?_) | (with_reducible refine le_setCell _ _ ?_) | (with_reducible refine le_drew ?_) | omega | (simp; done) | (simp; omega))))).mono ?_
    rintro e w' ⟨rfl, hw'⟩; have hzy2 := ext_sz hw'; obtain ⟨y2, rfl⟩ := hw'; (try simp at hzy2)
    go_wp2
    go_ret2
    rw [MM.out.1, MM.out.2]
    exact ⟨_, rfl, OwnP.nil _ _, (ext_mk (by (repeat' (first | (with_reducible exact Below.refl _ _) | (with_reducible assumption) | (with_reducible refine below_ext _ ?_ ?_) | (with_reducible refine Below.alloc ?_ ?_ _) | (with_reducible refine Below.drew ?_) | (with_reducible refine below_drewN ?_ _) | (with_reducible refine le_drewN _ ?_) | (with_reducible refine Below.setCell ?_ ?_ _) | (with_reducible exact Nat.le_refl _) | (with_reducible refine le_ext _ ?_) | (with_reducible refine le_alloc _ ?_) | (with_reducible refine le_setCell _ _ ?_) | (with_reducible refine le_drew ?_) | omega | (simp; done) | (simp; omega)))))⟩
end Go.Proofs.Ytelhidonhldjeaa
