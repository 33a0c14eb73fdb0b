
/- Guards: CheckGuards of the program and of the reference. -/
import Derived.Test.YtkkmioffclpmfaaGreatChkTI
import Derived.Test.YtkkmioffclpmfaaGreatFunI
set_option linter.unusedVariables false
set_option linter.unusedSimpArgs false
namespace Go.Proofs.YtkkmioffclpmfaaGreat
open Go.RowKit

def hasN (gs : List Int) (x : Int) : Bool := (List.range gs.length).any fun i => x == gi gs i
def seenB (gs : List Int) (t : TI) : Bool := hasN gs t.a || (hasN gs t.b || hasN gs t.c)
def grdB (ps : List Pt) (ts : List TI) (gs : List Int) : Bool := chkT ps ts && (!(List.range gs.length).any (fun i => !inN ps.length (gi gs i)) && !(List.range ts.length).any fun j => !seenB gs (gt ts j))
theorem any3 (p : Nat → Bool) : (List.range 3).any p = (p 0 || (p 1 || p 2)) := by simp [List.range_succ, Bool.or_assoc]
theorem any_range_no {p : Nat → Bool} {n : Nat} (h : ∀ j, j < n → p j = false) : (List.range n).any p = false := by
  rw [List.any_eq_false]
  intro j hj
  rw [h j (List.mem_range.1 hj)]; decide
theorem any_range_yes {p : Nat → Bool} {n j : Nat} (hj : j < n) (h : p j = true) : (List.range n).any p = true := List.any_eq_true.2 ⟨j, List.mem_range.2 hj, h⟩
set_option maxHeartbeats 400000 in
theorem IndexFuncT_any (g : Nat) (lb : Array Value) (p : Nat → Bool) (ts : List TI) (A : Option Addr) (n c : Nat) (w : World) (hn : ts.length = n) (hm : n ≤ 2000000) (eg : ∀ args w, (callFunc g args).run Tryz.prog w = .ok (.enter g args) w)
    (hs : TrisAt w w.heap.size A ts) (hg : ∀ (W : World) (i : Nat), Below w.heap.size w W → i < ts.length → Calls Tryz.prog g (#[.agg #[.int .i64 (gt ts i).a, .int .i64 (gt ts i).b, .int .i64 (gt ts i).c]] ++ lb) W fun e w' => e = .returned (.bool (p i)) ∧ ∃ m, w' = ext W m) :
    Calls Tryz.prog 118 #[.slice A n c, .func (.func g) #[] lb] w fun e w' => e = .returned (.int .i64 (firstIdx p n)) ∧ ∃ m, w' = ext w m := by
  have HG := hide hg
  clear hg
  go_enter Tryz.func118, Tryz.ntmps118
  go_wp2
  go_loopw [8] (fun v8 wr => ∃ k : Nat, k ≤ n ∧ v8 = .int .i64 k ∧ Hid (∀ j, j < k → p j = false) ∧ ∃ x, wr = ext w x) (fun v8 _ => n - (intOf v8).toNat)
  case atStart => exact ⟨0, Nat.zero_le _, rfl, fun j hj => by omega, ext_same w⟩
  case round =>
    obtain ⟨k, hk, rfl, hp, x, rfl⟩ := hrel
    by_cases hlt : k < n
    · obtain ⟨b, o, rfl, hb, hc⟩ := hs (by omega)
      have hck := hc k (by omega)
      clear hc
      obtain ⟨hx, hy, hz⟩ := hck
      go_wp2_with (go_at_fn g; refine (HG.out _ k (ext_below w x) (by omega)).mono ?_; rintro e w' ⟨rfl, y, rfl⟩)
      case roundEnd =>
        have hpk : p k = false := by assumption
        exact ⟨⟨k + 1, by omega, by go_num, fun j hj => by rcases Nat.lt_succ_iff_lt_or_eq.1 hj with h | rfl; exact hp.out j h; exact hpk, (ext_mk (by (repeat' (first | (with_reducible first | exact Below.refl _ _ | assumption | refine below_ext _ ?_ ?_ | refine Below.alloc ?_ ?_ _ | refine Below.drew ?_ | refine below_drewN ?_ _ | refine le_drewN _ ?_ | refine Below.setCell ?_ ?_ _ | exact Nat.le_refl _ | refine le_ext _ ?_ | refine le_alloc _ ?_ | refine le_setCell _ _ ?_ | refine le_drew ?_) | omega | (simp; done) | (simp; omega)))))⟩, by simp [intOf]; omega⟩
      have hpk : p k = true := by assumption
      go_ret
      exact ⟨ret_int (firstIdx_at hlt hpk hp.out).symm, (ext_mk (by (repeat' (first | (with_reducible first | exact Below.refl _ _ | assumption | refine below_ext _ ?_ ?_ | refine Below.alloc ?_ ?_ _ | refine Below.drew ?_ | refine below_drewN ?_ _ | refine le_drewN _ ?_ | refine Below.setCell ?_ ?_ _ | exact Nat.le_refl _ | refine le_ext _ ?_ | refine le_alloc _ ?_ | refine le_setCell _ _ ?_ | refine le_drew ?_) | omega | (simp; done) | (simp; omega)))))⟩
    · have : k = n := by omega
      subst this
      go_wp2
      go_ret
      exact ⟨ret_int (firstIdx_none hp.out).symm, (ext_mk (by (repeat' (first | (with_reducible first | exact Below.refl _ _ | assumption | refine below_ext _ ?_ ?_ | refine Below.alloc ?_ ?_ _ | refine Below.drew ?_ | refine below_drewN ?_ _ | refine le_drewN _ ?_ | refine Below.setCell ?_ ?_ _ | exact Nat.le_refl _ | refine le_ext _ ?_ | refine le_alloc _ ?_ | refine le_setCell _ _ ?_ | refine le_drew ?_) | omega | (simp; done) | (simp; omega)))))⟩
set_option maxHeartbeats 400000 in
theorem ContainsFuncT_any (g : Nat) (lb : Array Value) (p : Nat → Bool) (ts : List TI) (A : Option Addr) (n c : Nat) (w : World) (hn : ts.length = n) (hm : n ≤ 2000000) (eg : ∀ args w, (callFunc g args).run Tryz.prog w = .ok (.enter g args) w)
    (hs : TrisAt w w.heap.size A ts) (hg : ∀ (W : World) (i : Nat), Below w.heap.size w W → i < ts.length → Calls Tryz.prog g (#[.agg #[.int .i64 (gt ts i).a, .int .i64 (gt ts i).b, .int .i64 (gt ts i).c]] ++ lb) W fun e w' => e = .returned (.bool (p i)) ∧ ∃ m, w' = ext W m) :
    Calls Tryz.prog 74 #[.slice A n c, .func (.func g) #[] lb] w fun e w' => e = .returned (.bool ((List.range n).any p)) ∧ ∃ m, w' = ext w m := by
  have HI := hide (IndexFuncT_any g lb p ts A n c w hn hm eg hs hg)
  have HA := hide (firstIdx_any p n)
  clear hg hs
  go_enter Tryz.func74, Tryz.ntmps74
  go_wp2_with (go_at_call 118; refine HI.out.mono ?_; rintro e w' ⟨rfl, hw'⟩; have hzy := ext_sz hw'; obtain ⟨y, rfl⟩ := hw'; (try simp at hzy))
  go_ret
  exact ⟨ret_bool HA.out, (ext_mk (by (repeat' (first | (with_reducible first | exact Below.refl _ _ | assumption | refine below_ext _ ?_ ?_ | refine Below.alloc ?_ ?_ _ | refine Below.drew ?_ | refine below_drewN ?_ _ | refine le_drewN _ ?_ | refine Below.setCell ?_ ?_ _ | exact Nat.le_refl _ | refine le_ext _ ?_ | refine le_alloc _ ?_ | refine le_setCell _ _ ?_ | refine le_drew ?_) | omega | (simp; done) | (simp; omega)))))⟩
set_option maxHeartbeats 400000 in
theorem grd1_any (x : Int) (A : Option Addr) (n c bp : Nat) (w : World) (hm : n ≤ 2000000) (hp : w.cell? ⟨bp, 0, none⟩ = some (.slice A n c)) :
    Calls Tryz.prog 72 #[.int .i64 x, .pointer (some ⟨bp, 0, none⟩)] w fun e w' => e = .returned (.bool (!inN n x)) ∧ ∃ y, w' = ext w y := by
  have w1 : IntKind.i64.wrap ((n : Int) - 1) = (n : Int) - 1 := IntWalk.i64_in _ (by omega)
  have IN : Hid (inN n x = inB x 0 ((n : Int) - 1)) := hide rfl
  rw [IN.out]
  go_enter Tryz.func72, Tryz.ntmps72
  go_wp2_with fail
  refine (within_any _ _ _ _).mono ?_
  rintro e w' ⟨rfl, rfl⟩
  go_wp2_with fail
  go_ret
  exact ⟨rfl, (ext_mk (by (repeat' (first | (with_reducible first | exact Below.refl _ _ | assumption | refine below_ext _ ?_ ?_ | refine Below.alloc ?_ ?_ _ | refine Below.drew ?_ | refine below_drewN ?_ _ | refine le_drewN _ ?_ | refine Below.setCell ?_ ?_ _ | exact Nat.le_refl _ | refine le_ext _ ?_ | refine le_alloc _ ?_ | refine le_setCell _ _ ?_ | refine le_drew ?_) | omega | (simp; done) | (simp; omega)))))⟩
set_option maxHeartbeats 400000 in
theorem grd21_any (gs : List Int) (x : Int) (A : Option Addr) (n c bg : Nat) (w : World) (hn : gs.length = n) (hm : n ≤ 2000000) (hs : IntsAt w w.heap.size A gs) (hp : w.cell? ⟨bg, 0, none⟩ = some (.slice A n c)) :
    Calls Tryz.prog 77 #[.int .i64 x, .pointer (some ⟨bg, 0, none⟩)] w fun e w' => e = .returned (.bool (hasN gs x)) ∧ ∃ y, w' = ext w y := by
  have HC := hide (containsN_any gs x A n c w hn hm hs)
  have HV : Hid (hasN gs x = (List.range n).any fun i => x == gi gs i) := hide (by unfold hasN; rw [hn])
  rw [← HV.out] at HC
  clear hs hn HV
  go_enter Tryz.func77, Tryz.ntmps77
  go_wp2_with fail
  refine HC.out.mono ?_
  rintro e w' ⟨rfl, hw'⟩; have hzy1 := ext_sz hw'; obtain ⟨y1, rfl⟩ := hw'; (try simp at hzy1)
  go_wp2_with fail
  go_ret
  exact ⟨rfl, (ext_mk (by (repeat' (first | (with_reducible first | exact Below.refl _ _ | assumption | refine below_ext _ ?_ ?_ | refine Below.alloc ?_ ?_ _ | refine Below.drew ?_ | refine below_drewN ?_ _ | refine le_drewN _ ?_ | refine Below.setCell ?_ ?_ _ | exact Nat.le_refl _ | refine le_ext _ ?_ | refine le_alloc _ ?_ | refine le_setCell _ _ ?_ | refine le_drew ?_) | omega | (simp; done) | (simp; omega)))))⟩
set_option maxHeartbeats 1000000 in
theorem grd2_any (gs : List Int) (t : TI) (A : Option Addr) (n c bg : Nat) (w : World) (hn : gs.length = n) (hm : n ≤ 2000000) (hs : IntsAt w w.heap.size A gs) (hp : w.cell? ⟨bg, 0, none⟩ = some (.slice A n c)) :
    Calls Tryz.prog 75 #[.agg #[.int .i64 t.a, .int .i64 t.b, .int .i64 t.c], .pointer (some ⟨bg, 0, none⟩)] w fun e w' => e = .returned (.bool (!seenB gs t)) ∧ ∃ y, w' = ext w y := by
  obtain ⟨a, b, c'⟩ := t
  have lp := World.block_lt_of_cell? w _ hp
  have HC := hide (fun (B W : World) (k : Nat) (hb : Below w.heap.size w W) (hz : IntsAt W W.heap.size (some ⟨k, 0, none⟩) [a, b, c']) =>
    ContainsFuncN_any 77 #[.pointer (some ⟨bg, 0, none⟩)] (fun i => hasN gs (gi [a, b, c'] i)) [a, b, c'] (some ⟨k, 0, none⟩) 3 3 W rfl (by omega) (enters _ Tryz.func77 (by kernel_rfl) rfl) hz (fun W' i hb' hi =>
      grd21_any gs (gi [a, b, c'] i) A n c bg W' hn hm ((hs.to hb).to hb') ((hb'.cell (p := ⟨bg, 0, none⟩) (Nat.lt_of_lt_of_le lp hb.size)).trans ((hb.cell (p := ⟨bg, 0, none⟩) lp).trans hp))))
  have HV : Hid (((List.range 3).any fun i => hasN gs (gi [a, b, c'] i)) = seenB gs ⟨a, b, c'⟩) := hide (any3 _)
  rw [HV.out] at HC
  have CO := hide (fun W => corners_any a b c' W)
  have IA : Hid (∀ (W : World) (k : Nat), k < W.heap.size → W.cell? ⟨k, 0, none⟩ = some (.int .i64 a) → W.cell? ⟨k, 1, none⟩ = some (.int .i64 b) → W.cell? ⟨k, 2, none⟩ = some (.int .i64 c') → IntsAt W W.heap.size (some ⟨k, 0, none⟩) [a, b, c']) := hide (fun W k hk h0 h1 h2 _ => ⟨k, 0, rfl, hk, fun i hi => by
    have hi : i < 3 := hi
    match i, hi with
    | 0, _ => exact h0
    | 1, _ => exact h1
    | 2, _ => exact h2⟩)
  clear hs hn HV hp
  go_enter Tryz.func75, Tryz.ntmps75
  go_wp2_with fail
  refine (CO.out _).mono ?_
  rintro e w' ⟨rfl, hw'⟩; have hzy1 := ext_sz hw'; obtain ⟨y1, rfl⟩ := hw'; (try simp at hzy1)
  go_wp2_with fail
  refine (HC.out w _ _ (by (repeat' (first | (with_reducible first | exact Below.refl _ _ | assumption | refine below_ext _ ?_ ?_ | refine Below.alloc ?_ ?_ _ | refine Below.drew ?_ | refine below_drewN ?_ _ | refine le_drewN _ ?_ | refine Below.setCell ?_ ?_ _ | exact Nat.le_refl _ | refine le_ext _ ?_ | refine le_alloc _ ?_ | refine le_setCell _ _ ?_ | refine le_drew ?_) | omega | (simp; done) | (simp; omega)))) (IA.out _ _ (by first | (simp; done) | (simp; omega)) (by simp [go_sem, ↓IntWalk.iteOmega]) (by simp [go_sem, ↓IntWalk.iteOmega]) (by simp [go_sem, ↓IntWalk.iteOmega]))).mono ?_
  rintro e w' ⟨rfl, hw'⟩; have hzy2 := ext_sz hw'; obtain ⟨y2, rfl⟩ := hw'; (try simp at hzy2)
  go_wp2_with fail
  go_ret
  exact ⟨rfl, (ext_mk (by (repeat' (first | (with_reducible first | exact Below.refl _ _ | assumption | refine below_ext _ ?_ ?_ | refine Below.alloc ?_ ?_ _ | refine Below.drew ?_ | refine below_drewN ?_ _ | refine le_drewN _ ?_ | refine Below.setCell ?_ ?_ _ | exact Nat.le_refl _ | refine le_ext _ ?_ | refine le_alloc _ ?_ | refine le_setCell _ _ ?_ | refine le_drew ?_) | omega | (simp; done) | (simp; omega)))))⟩
set_option maxHeartbeats 2000000 in
theorem iGrd_any (ps : List Pt) (ts : List TI) (gs : List Int) (A Z G : Option Addr) (n c m d k e : Nat) (w : World) (hn : ps.length = n) (hm : n ≤ 2000000) (hA : Plain A n) (ht : ts.length = m) (hm2 : m ≤ 2000000) (hg : gs.length = k) (hm3 : k ≤ 2000000) (hs : PtsAt w w.heap.size A ps) (hz : TrisAt w w.heap.size Z ts) (hgs : IntsAt w w.heap.size G gs) :
    Calls Tryz.prog 36 #[.slice A n c, .slice Z m d, .slice G k e] w fun e w' => e = .returned (.bool (grdB ps ts gs)) ∧ ∃ x, w' = ext w x := by
  have HC := hide (fun (W : World) (hb : Below w.heap.size w W) => iCheckT_any ps ts A Z n c m d W hn hm hA ht hm2 (hs.to hb) (hz.to hb))
  have F1 := hide (fun (W : World) (bp : Nat) (hb : Below w.heap.size w W) (hp : W.cell? ⟨bp, 0, none⟩ = some (.slice A n c)) =>
    ContainsFuncN_any 72 #[.pointer (some ⟨bp, 0, none⟩)] (fun i => !inN n (gi gs i)) gs G k e W hg hm3 (enters _ Tryz.func72 (by kernel_rfl) rfl) (hgs.to hb) (fun W' i hb' hi => grd1_any (gi gs i) A n c bp W' hm ((hb'.cell (p := ⟨bp, 0, none⟩) (World.block_lt_of_cell? W _ hp)).trans hp)))
  have F2 := hide (fun (W : World) (bg : Nat) (hb : Below w.heap.size w W) (hp : W.cell? ⟨bg, 0, none⟩ = some (.slice G k e)) =>
    ContainsFuncT_any 75 #[.pointer (some ⟨bg, 0, none⟩)] (fun j => !seenB gs (gt ts j)) ts Z m d W ht hm2 (enters _ Tryz.func75 (by kernel_rfl) rfl) (hz.to hb) (fun W' i hb' hi => grd2_any gs (gt ts i) G k e bg W' hg hm3 ((hgs.to hb).to hb') ((hb'.cell (p := ⟨bg, 0, none⟩) (World.block_lt_of_cell? W _ hp)).trans hp)))
  have HV : Hid (grdB ps ts gs = (chkT ps ts && (!(List.range k).any (fun i => !inN n (gi gs i)) && !(List.range m).any fun j => !seenB gs (gt ts j)))) := hide (by unfold grdB; rw [hn, ht, hg])
  rw [HV.out]
  clear hs hz hgs hn ht hg HV
  generalize chkT ps ts = V1 at *
  generalize ((List.range k).any fun i => !inN n (gi gs i)) = V2 at *
  generalize ((List.range m).any fun j => !seenB gs (gt ts j)) = V3 at *
  cases V1
  · go_enter Tryz.func36, Tryz.ntmps36
    go_wp2_with fail
    refine (HC.out _ (by (repeat' (first | (with_reducible first | exact Below.refl _ _ | assumption | refine below_ext _ ?_ ?_ | refine Below.alloc ?_ ?_ _ | refine Below.drew ?_ | refine below_drewN ?_ _ | refine le_drewN _ ?_ | refine Below.setCell ?_ ?_ _ | exact Nat.le_refl _ | refine le_ext _ ?_ | refine le_alloc _ ?_ | refine le_setCell _ _ ?_ | refine le_drew ?_) | omega | (simp; done) | (simp; omega))))).mono ?_
    rintro e w' ⟨rfl, hw'⟩; have hzy1 := ext_sz hw'; obtain ⟨y1, rfl⟩ := hw'; (try simp at hzy1)
    go_wp2_with fail
    go_ret
    exact ⟨rfl, (ext_mk (by (repeat' (first | (with_reducible first | exact Below.refl _ _ | assumption | refine below_ext _ ?_ ?_ | refine Below.alloc ?_ ?_ _ | refine Below.drew ?_ | refine below_drewN ?_ _ | refine le_drewN _ ?_ | refine Below.setCell ?_ ?_ _ | exact Nat.le_refl _ | refine le_ext _ ?_ | refine le_alloc _ ?_ | refine le_setCell _ _ ?_ | refine le_drew ?_) | omega | (simp; done) | (simp; omega)))))⟩
  · cases V2
    · go_enter Tryz.func36, Tryz.ntmps36
      go_wp2_with fail
      refine (HC.out _ (by (repeat' (first | (with_reducible first | exact Below.refl _ _ | assumption | refine below_ext _ ?_ ?_ | refine Below.alloc ?_ ?_ _ | refine Below.drew ?_ | refine below_drewN ?_ _ | refine le_drewN _ ?_ | refine Below.setCell ?_ ?_ _ | exact Nat.le_refl _ | refine le_ext _ ?_ | refine le_alloc _ ?_ | refine le_setCell _ _ ?_ | refine le_drew ?_) | omega | (simp; done) | (simp; omega))))).mono ?_
      rintro e w' ⟨rfl, hw'⟩; have hzy1 := ext_sz hw'; obtain ⟨y1, rfl⟩ := hw'; (try simp at hzy1)
      go_wp2_with fail
      refine (F1.out _ w.heap.size (by (repeat' (first | (with_reducible first | exact Below.refl _ _ | assumption | refine below_ext _ ?_ ?_ | refine Below.alloc ?_ ?_ _ | refine Below.drew ?_ | refine below_drewN ?_ _ | refine le_drewN _ ?_ | refine Below.setCell ?_ ?_ _ | exact Nat.le_refl _ | refine le_ext _ ?_ | refine le_alloc _ ?_ | refine le_setCell _ _ ?_ | refine le_drew ?_) | omega | (simp; done) | (simp; omega)))) (by simp [go_sem, ↓IntWalk.iteOmega])).mono ?_
      rintro e w' ⟨rfl, hw'⟩; have hzy2 := ext_sz hw'; obtain ⟨y2, rfl⟩ := hw'; (try simp at hzy2)
      go_wp2_with fail
      refine (F2.out _ (w.heap.size + 1) (by (repeat' (first | (with_reducible first | exact Below.refl _ _ | assumption | refine below_ext _ ?_ ?_ | refine Below.alloc ?_ ?_ _ | refine Below.drew ?_ | refine below_drewN ?_ _ | refine le_drewN _ ?_ | refine Below.setCell ?_ ?_ _ | exact Nat.le_refl _ | refine le_ext _ ?_ | refine le_alloc _ ?_ | refine le_setCell _ _ ?_ | refine le_drew ?_) | omega | (simp; done) | (simp; omega)))) (by simp [go_sem, ↓IntWalk.iteOmega])).mono ?_
      rintro e w' ⟨rfl, hw'⟩; have hzy3 := ext_sz hw'; obtain ⟨y3, rfl⟩ := hw'; (try simp at hzy3)
      go_wp2_with fail
      go_ret
      exact ⟨by simp, (ext_mk (by (repeat' (first | (with_reducible first | exact Below.refl _ _ | assumption | refine below_ext _ ?_ ?_ | refine Below.alloc ?_ ?_ _ | refine Below.drew ?_ | refine below_drewN ?_ _ | refine le_drewN _ ?_ | refine Below.setCell ?_ ?_ _ | exact Nat.le_refl _ | refine le_ext _ ?_ | refine le_alloc _ ?_ | refine le_setCell _ _ ?_ | refine le_drew ?_) | omega | (simp; done) | (simp; omega)))))⟩
    · go_enter Tryz.func36, Tryz.ntmps36
      go_wp2_with fail
      refine (HC.out _ (by (repeat' (first | (with_reducible first | exact Below.refl _ _ | assumption | refine below_ext _ ?_ ?_ | refine Below.alloc ?_ ?_ _ | refine Below.drew ?_ | refine below_drewN ?_ _ | refine le_drewN _ ?_ | refine Below.setCell ?_ ?_ _ | exact Nat.le_refl _ | refine le_ext _ ?_ | refine le_alloc _ ?_ | refine le_setCell _ _ ?_ | refine le_drew ?_) | omega | (simp; done) | (simp; omega))))).mono ?_
      rintro e w' ⟨rfl, hw'⟩; have hzy1 := ext_sz hw'; obtain ⟨y1, rfl⟩ := hw'; (try simp at hzy1)
      go_wp2_with fail
      refine (F1.out _ w.heap.size (by (repeat' (first | (with_reducible first | exact Below.refl _ _ | assumption | refine below_ext _ ?_ ?_ | refine Below.alloc ?_ ?_ _ | refine Below.drew ?_ | refine below_drewN ?_ _ | refine le_drewN _ ?_ | refine Below.setCell ?_ ?_ _ | exact Nat.le_refl _ | refine le_ext _ ?_ | refine le_alloc _ ?_ | refine le_setCell _ _ ?_ | refine le_drew ?_) | omega | (simp; done) | (simp; omega)))) (by simp [go_sem, ↓IntWalk.iteOmega])).mono ?_
      rintro e w' ⟨rfl, hw'⟩; have hzy2 := ext_sz hw'; obtain ⟨y2, rfl⟩ := hw'; (try simp at hzy2)
      go_wp2_with fail
      go_ret
      exact ⟨rfl, (ext_mk (by (repeat' (first | (with_reducible first | exact Below.refl _ _ | assumption | refine below_ext _ ?_ ?_ | refine Below.alloc ?_ ?_ _ | refine Below.drew ?_ | refine below_drewN ?_ _ | refine le_drewN _ ?_ | refine Below.setCell ?_ ?_ _ | exact Nat.le_refl _ | refine le_ext _ ?_ | refine le_alloc _ ?_ | refine le_setCell _ _ ?_ | refine le_drew ?_) | omega | (simp; done) | (simp; omega)))))⟩
end Go.Proofs.YtkkmioffclpmfaaGreat
