
/- SimplifyPath of the program: the closure that calls itself. -/
import Derived.Test.YtgeilljbmjajnaaSimp
import Derived.Deep.RegionHeld3
import Derived.Deep.DeepCutAuto
set_option linter.unusedVariables false
set_option linter.unusedSimpArgs false
namespace Go.Proofs.Ytgeilljbmjajnaa
open Go.RowKit

def iOut (ps : List Pt) (most : Int) (f t k : Nat) : Int := match ibest ps most f t (k - (f + 1)) with | none => -1 | some b => b
def iN (ps : List Pt) (most : Int) (f t k : Nat) : Int := match ibest ps most f t (k - (f + 1)) with | none => most | some b => devAtN ps f t b
def iD (ps : List Pt) (most : Int) (f t k : Nat) : Int := match ibest ps most f t (k - (f + 1)) with | none => 1 | some b => devAtD ps f t b
def iTest (ps : List Pt) (most : Int) (f t k : Nat) : Bool := decide (0 < cmpF (devAtN ps f t k) (devAtD ps f t k) (iN ps most f t k) (iD ps most f t k))
theorem cmp_pos (a b c d : Int) : decide (0 < cmpF a b c d) = decide (c * b < a * d) := by
  unfold cmpF sgn
  rw [Bool.eq_iff_iff, decide_eq_true_iff, decide_eq_true_iff]
  split
  · constructor <;> intro <;> omega
  · split <;> constructor <;> intro <;> omega
theorem i_start (ps : List Pt) (most : Int) (f t : Nat) : iOut ps most f t (f + 1) = -1 ∧ iN ps most f t (f + 1) = most ∧ iD ps most f t (f + 1) = 1 := by
  unfold iOut iN iD; rw [Nat.sub_self]; exact ⟨rfl, rfl, rfl⟩
theorem i_yes {ps : List Pt} {most : Int} {f t k : Nat} (hk : f + 1 ≤ k) (h : iTest ps most f t k = true) : iOut ps most f t (k + 1) = k ∧ iN ps most f t (k + 1) = devAtN ps f t k ∧ iD ps most f t (k + 1) = devAtD ps f t k := by
  obtain ⟨j, rfl⟩ : ∃ j, k = f + 1 + j := ⟨k - (f + 1), by omega⟩
  unfold iTest iN iD at h
  rw [cmp_pos, show f + 1 + j - (f + 1) = j from by omega] at h
  have : ibest ps most f t (j + 1) = some (f + 1 + j) := by
    rw [ibest]
    cases hb : ibest ps most f t j with
    | none =>
      rw [hb] at h; simp only at h
      show (if ovB ps most f t (f + 1 + j) = true then some (f + 1 + j) else none) = _
      rw [if_pos (by unfold ovB; simpa using h)]
    | some b =>
      rw [hb] at h; simp only at h
      show (if gtB ps f t (f + 1 + j) b = true then some (f + 1 + j) else some b) = _
      rw [if_pos (by unfold gtB; exact h)]
  unfold iOut iN iD
  rw [show f + 1 + j + 1 - (f + 1) = j + 1 from by omega, this]
  exact ⟨rfl, rfl, rfl⟩
theorem i_no {ps : List Pt} {most : Int} {f t k : Nat} (hk : f + 1 ≤ k) (h : iTest ps most f t k = false) : iOut ps most f t (k + 1) = iOut ps most f t k ∧ iN ps most f t (k + 1) = iN ps most f t k ∧ iD ps most f t (k + 1) = iD ps most f t k := by
  obtain ⟨j, rfl⟩ : ∃ j, k = f + 1 + j := ⟨k - (f + 1), by omega⟩
  unfold iTest iN iD at h
  rw [cmp_pos, show f + 1 + j - (f + 1) = j from by omega] at h
  have : ibest ps most f t (j + 1) = ibest ps most f t j := by
    rw [ibest]
    cases hb : ibest ps most f t j with
    | none =>
      rw [hb] at h; simp only at h
      show (if ovB ps most f t (f + 1 + j) = true then some (f + 1 + j) else none) = _
      rw [if_neg (by unfold ovB; rw [Bool.not_eq_true]; simpa using h)]
    | some b =>
      rw [hb] at h; simp only at h
      show (if gtB ps f t (f + 1 + j) b = true then some (f + 1 + j) else some b) = _
      rw [if_neg (by unfold gtB; rw [Bool.not_eq_true]; exact h)]
  unfold iOut iN iD
  rw [show f + 1 + j + 1 - (f + 1) = j + 1 from by omega, show f + 1 + j - (f + 1) = j from by omega, this]
  exact ⟨rfl, rfl, rfl⟩
theorem i_bds {ps : List Pt} {most : Int} (hmo : 0 ≤ most ∧ most ≤ 8000000) (hall : allOk ps = true) {f t k : Nat} (hf : f < ps.length) (ht : t < ps.length) (hk : f + 1 ≤ k) (hk2 : k ≤ t) : (0 ≤ iN ps most f t k ∧ iN ps most f t k ≤ 64000000000000) ∧ (1 ≤ iD ps most f t k ∧ iD ps most f t k ≤ 8000000) := by
  unfold iN iD
  cases hb : ibest ps most f t (k - (f + 1)) with
  | none => simp; omega
  | some b =>
    have := ibest_bd hb
    exact dev_bds hall hf ht (by omega)
def selfFn (pb mb fb kb : Nat) : Value := .func (.func 47) #[] #[.pointer (some ⟨pb, 0, none⟩), .pointer (some ⟨mb, 0, none⟩), .pointer (some ⟨fb, 0, none⟩), .pointer (some ⟨kb, 0, none⟩)]
/-- What the closure has captured: the path, the tolerance, itself, the list of those kept. -/
structure Cap (base pb mb fb kb : Nat) (A : Option Addr) (n c : Nat) (most : Int) (W : World) (v : Value) (zs : List Int) : Prop where
  p : W.heap[pb]? = some (.cells #[.slice A n c] 27 (0, 0))
  m : W.heap[mb]? = some (.cells #[.int .i64 most] 3 (0, 0))
  f : W.heap[fb]? = some (.cells #[selfFn pb mb fb kb] 70 (0, 0))
  k : W.heap[kb]? = some (.cells #[v] 33 (0, 0))
  own : Own W base v zs
  le : base ≤ kb
  off : ∀ k, v.ownBlock = some k → k ≠ pb ∧ k ≠ mb ∧ k ≠ fb ∧ k ≠ kb
  ne : pb ≠ kb ∧ mb ≠ kb ∧ fb ≠ kb
theorem heap_lt {w : World} {g : Nat} {o : Obj} (h : w.heap[g]? = some o) : g < w.heap.size := (Array.getElem?_eq_some_iff.1 h).1
theorem heap_cell {w : World} {g : Nat} {cs : Array Value} {T : TypeId} (h : w.heap[g]? = some (.cells cs T (0, 0))) (j : Nat) : w.cell? ⟨g, j, none⟩ = cs[j]? := by simp [World.cell?, h]
theorem heap_frozen {w : World} {g : Nat} {cs : Array Value} {T : TypeId} (h : w.heap[g]? = some (.cells cs T (0, 0))) (j : Nat) : w.frozen? ⟨g, j, none⟩ = false := by simp [World.frozen?, h]
theorem size_alloc (w : World) (o : Obj) : (w.alloc o).heap.size = w.heap.size + 1 := by simp
theorem box_set2 {w : World} {g : Nat} {x y : Value} {T : TypeId} (h : w.heap[g]? = some (.cells #[x, y] T (0, 0))) (a b : Value) : ((w.setCell ⟨g, 0, none⟩ a).setCell ⟨g, 1, none⟩ b).heap[g]? = some (.cells #[a, b] T (0, 0)) := by
  simp [World.setCell, Array.getElem?_modify, h]
theorem box_call (w y : World) (a b z1 z2 : Value) (T : TypeId) : (((ext (w.alloc (.cells #[z1, z2] T)).drew y).setCell ⟨w.heap.size, 0, none⟩ a).setCell ⟨w.heap.size, 1, none⟩ b).heap[w.heap.size]? = some (.cells #[a, b] T (0, 0)) :=
  box_set2 (((ext_below (w.alloc (.cells #[z1, z2] T)).drew y).block w.heap.size (by show w.heap.size < (w.alloc _).heap.size; simp)).trans (heap_alloc_new w _)) a b
theorem Cap.later {base pb mb fb kb : Nat} {A : Option Addr} {n c : Nat} {most : Int} {W W' : World} {v : Value} {zs : List Int} (h : Cap base pb mb fb kb A n c most W v zs) (hb : Below W.heap.size W W') : Cap base pb mb fb kb A n c most W' v zs :=
  ⟨(hb.block _ (heap_lt h.p)).trans h.p, (hb.block _ (heap_lt h.m)).trans h.m, (hb.block _ (heap_lt h.f)).trans h.f, (hb.block _ (heap_lt h.k)).trans h.k, h.own.below hb, h.le, h.off, h.ne⟩

theorem own_block {w W : World} {base : Nat} {e : TypeId} {size : Nat} {v : Value} {n : Nat} {xs : List Value} (h : w.ownsRow base e size v n xs) (hb : ∀ k, v.ownBlock = some k → W.heap[k]? = w.heap[k]?) : W.ownsRow base e size v n xs := by
  refine ⟨h.1, ?_⟩
  rcases h.2 with hn | ⟨g, cap, cur, rfl, hg, hgg, rest⟩
  · exact .inl hn
  · exact .inr ⟨g, cap, cur, rfl, hg, (hb g rfl).trans hgg, rest⟩
theorem own_slice {w : World} {base : Nat} {v : Value} {zs : List Int} (h : Own w base v zs) : ∃ A n c, v = .slice A n c := by
  unfold Own at h
  rcases h.2 with ⟨hv, _⟩ | ⟨g, cap, cur, hv, _⟩
  · exact ⟨_, _, _, hv⟩
  · exact ⟨_, _, _, hv⟩
theorem cell_set1 {w : World} {g : Nat} {x : Value} {T : TypeId} (h : w.heap[g]? = some (.cells #[x] T (0, 0))) (a : Value) : (w.setCell ⟨g, 0, none⟩ a).heap[g]? = some (.cells #[a] T (0, 0)) := by
  simp [World.setCell, Array.getElem?_modify, h]
/-- Behind 'kept = append(kept, y)'. -/
theorem Cap.put {base pb mb fb kb : Nat} {A : Option Addr} {n c : Nat} {most : Int} {W W' : World} {o : Obj} {v v' : Value} {zs zs' : List Int} (h : Cap base pb mb fb kb A n c most W v zs) (hgr : (W.alloc o).grownBy W' v.ownBlock)
    (hown : Own W' base v' zs') (hat : v'.ownBlock = v.ownBlock ∨ v'.ownBlock = some (W.alloc o).heap.size) :
    W'.heap[kb]? = some (.cells #[v] 33 (0, 0)) ∧ Cap base pb mb fb kb A n c most (W'.setCell ⟨kb, 0, none⟩ v') v' zs' := by
  have step : ∀ k ob, k < W.heap.size → (∀ j, v.ownBlock = some j → j ≠ k) → W.heap[k]? = some ob → W'.heap[k]? = some ob := fun k ob hk hne hob =>
    (hgr.block k (by simp; omega) (fun e => hne k e.symm rfl)).trans ((Below.heap_alloc W o k hk).trans hob)
  have hk := step kb _ (heap_lt h.k) (fun j hj => (h.off j hj).2.2.2) h.k
  have off' : ∀ k, v'.ownBlock = some k → k ≠ pb ∧ k ≠ mb ∧ k ≠ fb ∧ k ≠ kb := by
    intro k hk
    rcases hat with e | e
    · exact h.off k (e.symm.trans hk)
    · have := heap_lt h.p; have := heap_lt h.m; have := heap_lt h.f; have := heap_lt h.k
      have hkk := Option.some.inj (e.symm.trans hk)
      rw [size_alloc] at hkk
      omega
  refine ⟨hk, ?_, ?_, ?_, cell_set1 hk v', ?_, h.le, off', h.ne⟩
  · exact (Below.heap_setCell W' _ _ pb h.ne.1).trans (step pb _ (heap_lt h.p) (fun j hj => (h.off j hj).1) h.p)
  · exact (Below.heap_setCell W' _ _ mb h.ne.2.1).trans (step mb _ (heap_lt h.m) (fun j hj => (h.off j hj).2.1) h.m)
  · exact (Below.heap_setCell W' _ _ fb h.ne.2.2).trans (step fb _ (heap_lt h.f) (fun j hj => (h.off j hj).2.2.1) h.f)
  · exact own_block hown (fun k hk2 => Below.heap_setCell W' _ _ k (off' k hk2).2.2.2)

set_option maxHeartbeats 2000000 in
theorem between_any (ps : List Pt) (most : Int) (n c base pb mb fb kb : Nat) (A : Option Addr) (hn : ps.length = n) (hm : n ≤ 100) (hmo : 0 ≤ most ∧ most ≤ 8000000) (hall : allOk ps = true) :
    ∀ (d f t : Nat) (v : Value) (zs : List Int) (w : World), t - f = d → f < t → t < n → zs.length + (t - f) ≤ 1000 → base ≤ w.heap.size → PtsAt w base A ps → Cap base pb mb fb kb A n c most w v zs →
    Calls Try.prog 47 #[.int .i64 f, .int .i64 t, .pointer (some ⟨pb, 0, none⟩), .pointer (some ⟨mb, 0, none⟩), .pointer (some ⟨fb, 0, none⟩), .pointer (some ⟨kb, 0, none⟩)] w
      fun e w' => ∃ v', e = .returned (.tuple #[]) ∧ Cap base pb mb fb kb A n c most w' v' (zs ++ keepOf ps most f t) ∧ Below base w w' := by
  intro d
  induction d using Nat.strongRecOn with
  | _ d ih =>
  intro f t v zs w hd hft ht hlen hbase hs hcap
  have IH := hide ih
  have HALL := hide hall
  have CAP := hide hcap
  have HS0 := hide hs
  obtain ⟨b, o, rfl, hb, hpc⟩ := hs (by omega)
  have HP := hide hpc
  obtain ⟨x1, y1⟩ := hpc f (by omega)
  obtain ⟨x2, y2⟩ := hpc t (by omega)
  have cp : w.cell? ⟨pb, 0, none⟩ = some (.slice (some ⟨b, o, none⟩) n c) := heap_cell hcap.p 0
  have cm : w.cell? ⟨mb, 0, none⟩ = some (.int .i64 most) := heap_cell hcap.m 0
  have lp := heap_lt hcap.p
  have lm := heap_lt hcap.m
  have lf := heap_lt hcap.f
  have lk := heap_lt hcap.k
  clear ih hall hcap hpc
  go_enter Try.func47, Try.ntmps47
  go_wp2
  go_region
  go_wp2
  go_region
  go_wp2
  go_loopw [9, 11] (fun u9 u11 wr => ∃ k : Nat, f + 1 ≤ k ∧ k ≤ t ∧ u9 = .int .i64 (iOut ps most f t k) ∧ u11 = .int .i64 k ∧ Below w.heap.size w wr ∧ w.heap.size + 2 ≤ wr.heap.size ∧
    wr.heap[w.heap.size]? = some (.cells #[.int .i64 (pX ps f), .int .i64 (pY ps f), .int .i64 (pX ps t), .int .i64 (pY ps t)] 49 (0, 0)) ∧ wr.heap[w.heap.size + 1]? = some (.cells #[.int .i64 (iN ps most f t k), .int .i64 (iD ps most f t k)] 62 (0, 0))) (fun _ u11 _ => t - (intOf u11).toNat)
  case atStart =>
    obtain ⟨h1, h2, h3⟩ := i_start ps most f t
    refine ⟨f + 1, by omega, by omega, by rw [h1], by go_num, (by (repeat' (first | (with_reducible exact Below.refl _ _) | (with_reducible assumption) | (with_reducible refine below_ext _ ?_ ?_) | (with_reducible refine Below.alloc ?_ ?_ _) | (with_reducible refine Below.drew ?_) | (with_reducible refine below_drewN ?_ _) | (with_reducible refine le_drewN _ ?_) | (with_reducible refine Below.setCell ?_ ?_ _) | (with_reducible exact Nat.le_refl _) | (with_reducible refine le_ext _ ?_) | (with_reducible refine le_alloc _ ?_) | (with_reducible refine le_setCell _ _ ?_) | (with_reducible refine le_drew ?_) | omega | (simp; done) | (simp; omega)))), ?_, ?_, ?_⟩
    · simp
    · exact (Below.heap_alloc (w.alloc _) _ w.heap.size (by simp)).trans (heap_alloc_new w _)
    · rw [h2, h3]
      have := heap_alloc_new (w.alloc (.cells #[.int .i64 (pX ps f), .int .i64 (pY ps f), .int .i64 (pX ps t), .int .i64 (pY ps t)] 49)) (.cells #[.int .i64 most, .int .i64 1] 62)
      rw [size_alloc] at this
      exact this
  case round =>
    obtain ⟨k, hk1, hk2, rfl, rfl, hbel, hsz, h8, h10⟩ := hrel
    by_cases hlt : k < t
    · have z0 := heap_cell h8 0
      have z1 := heap_cell h8 1
      have z2 := heap_cell h8 2
      have z3 := heap_cell h8 3
      obtain ⟨x3, y3⟩ := HP.out k (by omega)
      have cp' := (hbel.cell (p := ⟨pb, 0, none⟩) lp).trans cp
      have x3' := (hbel.cell (p := ⟨b, o + k * 2, none⟩) (by simp; omega)).trans x3
      have y3' := (hbel.cell (p := ⟨b, o + k * 2 + 1, none⟩) (by simp; omega)).trans y3
      simp at z0 z1 z2 z3
      obtain ⟨⟨n1, n2⟩, n3, n4⟩ := dev_bds HALL.out (f := f) (t := t) (i := k) (by omega) (by omega) (by omega)
      obtain ⟨⟨s1, s2⟩, s3, s4⟩ := i_bds hmo HALL.out (f := f) (t := t) (k := k) (by omega) (by omega) (by omega) (by omega)
      obtain ⟨a1, a2, a3, a4⟩ := allOk_at HALL.out (i := f) (by omega)
      obtain ⟨e1, e2, e3, e4⟩ := allOk_at HALL.out (i := t) (by omega)
      obtain ⟨g1, g2, g3, g4⟩ := allOk_at HALL.out (i := k) (by omega)
      have HA : Hid (∀ w, Calls Try.prog 42 #[.agg #[.int .i64 (pX ps f), .int .i64 (pY ps f), .int .i64 (pX ps t), .int .i64 (pY ps t)], .agg #[.int .i64 (pX ps k), .int .i64 (pY ps k)]] w fun r w' => r = .returned (.agg #[.int .i64 (devAtN ps f t k), .int .i64 (devAtD ps f t k)]) ∧ ∃ n, w' = ext w n) := hide (fun w => away_any (pX ps f) (pY ps f) (pX ps t) (pY ps t) (pX ps k) (pY ps k) w ⟨a1, a2⟩ ⟨a3, a4⟩ ⟨e1, e2⟩ ⟨e3, e4⟩ ⟨g1, g2⟩ ⟨g3, g4⟩)
      have H10 := hide h10
      have H8 := hide h8
      clear h8 h10
      have HS : ∀ W, Below wr.heap.size wr W → Below wr.heap.size wr W ∧ W.cell? ⟨w.heap.size, 0, none⟩ = some (.int .i64 (pX ps f)) ∧ W.cell? ⟨w.heap.size, 1, none⟩ = some (.int .i64 (pY ps f)) ∧ W.cell? ⟨w.heap.size, 2, none⟩ = some (.int .i64 (pX ps t)) ∧ W.cell? ⟨w.heap.size, 3, none⟩ = some (.int .i64 (pY ps t)) ∧
        W.cell? ⟨pb, 0, none⟩ = some (.slice (some ⟨b, o, none⟩) n c) ∧ W.cell? ⟨b, o + k * 2, none⟩ = some (.int .i64 (pX ps k)) ∧ W.cell? ⟨b, o + k * 2 + 1, none⟩ = some (.int .i64 (pY ps k)) := fun W hb =>
        ⟨hb, (hb.cell (p := ⟨w.heap.size, 0, none⟩) (by simp; omega)).trans z0, (hb.cell (p := ⟨w.heap.size, 1, none⟩) (by simp; omega)).trans z1, (hb.cell (p := ⟨w.heap.size, 2, none⟩) (by simp; omega)).trans z2, (hb.cell (p := ⟨w.heap.size, 3, none⟩) (by simp; omega)).trans z3,
          (hb.cell (p := ⟨pb, 0, none⟩) (by simp; omega)).trans cp', (hb.cell (p := ⟨b, o + k * 2, none⟩) (by simp; omega)).trans x3', (hb.cell (p := ⟨b, o + k * 2 + 1, none⟩) (by simp; omega)).trans y3'⟩
      have HSH := hide HS
      clear HS
      have q1 : (0 : Int) ≤ (k : Int) := by omega
      have q2 : (k : Int) < (n : Int) := by omega
      go_wp2
      go_cut [12] (fun u12 wx => ∃ g : Nat, u12 = .pointer (some ⟨g, 0, none⟩) ∧ wr.heap.size ≤ g ∧ Below wr.heap.size wr wx ∧ wx.heap[g]? = some (.cells #[.int .i64 (devAtN ps f t k), .int .i64 (devAtD ps f t k)] 62 (0, 0)))
      case first =>
        go_region_held3 (fun W => Below wr.heap.size wr W ∧ W.cell? ⟨w.heap.size, 0, none⟩ = some (.int .i64 (pX ps f)) ∧ W.cell? ⟨w.heap.size, 1, none⟩ = some (.int .i64 (pY ps f)) ∧ W.cell? ⟨w.heap.size, 2, none⟩ = some (.int .i64 (pX ps t)) ∧ W.cell? ⟨w.heap.size, 3, none⟩ = some (.int .i64 (pY ps t)) ∧
          W.cell? ⟨pb, 0, none⟩ = some (.slice (some ⟨b, o, none⟩) n c) ∧ W.cell? ⟨b, o + k * 2, none⟩ = some (.int .i64 (pX ps k)) ∧ W.cell? ⟨b, o + k * 2 + 1, none⟩ = some (.int .i64 (pY ps k))) (first | exact HSH.out _ (by (repeat' (first | (with_reducible exact Below.refl _ _) | (with_reducible assumption) | (with_reducible refine below_ext _ ?_ ?_) | (with_reducible refine Below.alloc ?_ ?_ _) | (with_reducible refine Below.drew ?_) | (with_reducible refine below_drewN ?_ _) | (with_reducible refine le_drewN _ ?_) | (with_reducible refine Below.setCell ?_ ?_ _) | (with_reducible exact Nat.le_refl _) | (with_reducible refine le_ext _ ?_) | (with_reducible refine le_alloc _ ?_) | (with_reducible refine le_setCell _ _ ?_) | (with_reducible refine le_drew ?_) | omega | (simp; done) | (simp; omega))))) (first | (go_at_call 42; refine (HA.out _).mono ?_; rintro e w' ⟨rfl, hw'⟩; have hzy := ext_sz hw'; obtain ⟨y, rfl⟩ := hw'; (try simp at hzy)))
        all_goals (go_wp2_with fail; go_meet)
        · refine ⟨_, rfl, ?_, (by (repeat' (first | (with_reducible exact Below.refl _ _) | (with_reducible assumption) | (with_reducible refine below_ext _ ?_ ?_) | (with_reducible refine Below.alloc ?_ ?_ _) | (with_reducible refine Below.drew ?_) | (with_reducible refine below_drewN ?_ _) | (with_reducible refine le_drewN _ ?_) | (with_reducible refine Below.setCell ?_ ?_ _) | (with_reducible exact Nat.le_refl _) | (with_reducible refine le_ext _ ?_) | (with_reducible refine le_alloc _ ?_) | (with_reducible refine le_setCell _ _ ?_) | (with_reducible refine le_drew ?_) | omega | (simp; done) | (simp; omega)))), heap_alloc_new _ _⟩
          exact ext_size wr.drew y
        · refine ⟨_, rfl, Nat.le_refl _, (by (repeat' (first | (with_reducible exact Below.refl _ _) | (with_reducible assumption) | (with_reducible refine below_ext _ ?_ ?_) | (with_reducible refine Below.alloc ?_ ?_ _) | (with_reducible refine Below.drew ?_) | (with_reducible refine below_drewN ?_ _) | (with_reducible refine le_drewN _ ?_) | (with_reducible refine Below.setCell ?_ ?_ _) | (with_reducible exact Nat.le_refl _) | (with_reducible refine le_ext _ ?_) | (with_reducible refine le_alloc _ ?_) | (with_reducible refine le_setCell _ _ ?_) | (with_reducible refine le_drew ?_) | omega | (simp; done) | (simp; omega)))), ?_⟩
          exact box_call wr y _ _ _ _ _
      case rest =>
        obtain ⟨g, rfl, hg, hbw, hgc⟩ := hcut
        have h10w := (hbw.block _ (by omega)).trans H10.out
        have d0 := heap_cell hgc 0
        have d1 := heap_cell hgc 1
        have d2 := heap_cell h10w 0
        have d3 := heap_cell h10w 1
        simp at d0 d1 d2 d3
        have HGC := hide hgc
        have H10W := hide h10w
        have glt := heap_lt hgc
        clear hgc h10w
        have HT : Hid (decide (0 < cmpF (devAtN ps f t k) (devAtD ps f t k) (iN ps most f t k) (iD ps most f t k)) = iTest ps most f t k) := rfl
        have hbelW : Below w.heap.size w wc := hbel.trans (hbw.mono (by omega))
        have hszW : w.heap.size + 2 ≤ wc.heap.size := by have := hbw.size; omega
        have H8W := hide ((hbw.block _ (by omega)).trans H8.out)
        have f0 := heap_frozen H10W.out 0
        have f1 := heap_frozen H10W.out 1
        cases hte : iTest ps most f t k
        · rw [hte] at HT
          have HTE := hide hte
          clear hte
          go_wp2_with fail
          (go_at_call 43; refine (compare_any _ _ _ _ _ (by omega) (by omega) (by omega) (by omega)).mono ?_; rintro e w' ⟨rfl, hw'⟩; have hzy := ext_sz hw'; obtain ⟨y, rfl⟩ := hw'; (try simp at hzy))
          have HT2 := HT.out
          go_wp2
          obtain ⟨r1, r2, r3⟩ := i_no hk1 HTE.out
          exact ⟨⟨k + 1, by omega, by omega, by rw [r1], by go_num, (by (repeat' (first | (with_reducible exact Below.refl _ _) | (with_reducible assumption) | (with_reducible refine below_ext _ ?_ ?_) | (with_reducible refine Below.alloc ?_ ?_ _) | (with_reducible refine Below.drew ?_) | (with_reducible refine below_drewN ?_ _) | (with_reducible refine le_drewN _ ?_) | (with_reducible refine Below.setCell ?_ ?_ _) | (with_reducible exact Nat.le_refl _) | (with_reducible refine le_ext _ ?_) | (with_reducible refine le_alloc _ ?_) | (with_reducible refine le_setCell _ _ ?_) | (with_reducible refine le_drew ?_) | omega | (simp; done) | (simp; omega)))), by omega, ((ext_below _ y).block _ (by omega)).trans H8W.out, by rw [r2, r3]; exact ((ext_below _ y).block _ (by omega)).trans H10W.out⟩, by simp [intOf]; omega⟩
        · rw [hte] at HT
          have HTE := hide hte
          clear hte
          go_wp2_with fail
          (go_at_call 43; refine (compare_any _ _ _ _ _ (by omega) (by omega) (by omega) (by omega)).mono ?_; rintro e w' ⟨rfl, hw'⟩; have hzy := ext_sz hw'; obtain ⟨y, rfl⟩ := hw'; (try simp at hzy))
          have HT2 := HT.out
          go_wp2
          go_region
          go_wp2
          obtain ⟨r1, r2, r3⟩ := i_yes hk1 HTE.out
          refine ⟨⟨k + 1, by omega, by omega, by rw [r1], by go_num, (by (repeat' (first | (with_reducible exact Below.refl _ _) | (with_reducible assumption) | (with_reducible refine below_ext _ ?_ ?_) | (with_reducible refine Below.alloc ?_ ?_ _) | (with_reducible refine Below.drew ?_) | (with_reducible refine below_drewN ?_ _) | (with_reducible refine le_drewN _ ?_) | (with_reducible refine Below.setCell ?_ ?_ _) | (with_reducible exact Nat.le_refl _) | (with_reducible refine le_ext _ ?_) | (with_reducible refine le_alloc _ ?_) | (with_reducible refine le_setCell _ _ ?_) | (with_reducible refine le_drew ?_) | omega | (simp; done) | (simp; omega)))), (by first | (simp; done) | (simp; omega)), ?_, ?_⟩, by simp [intOf]; omega⟩
          · refine (Below.heap_setCell _ _ _ _ (by simp)).trans ((Below.heap_setCell _ _ _ _ (by simp)).trans ?_)
            exact ((ext_below wc y).block _ (by omega)).trans H8W.out
          · rw [r2, r3]
            exact box_set2 (((ext_below wc y).block _ (by omega)).trans H10W.out) _ _
    · have ek : k = t := by omega
      subst ek
      have CAPR := hide (CAP.out.later hbel)
      cases htop : topOf ps most f k with
      | none =>
        have hO : iOut ps most f k k = -1 := by unfold iOut; unfold topOf at htop; rw [htop]
        have HK := hide (keepOf_none htop)
        clear htop
        rw [hO]
        clear hO
        go_wp2
        go_end0
        exact ⟨v, rfl, by rw [HK.out, List.append_nil]; exact CAPR.out, hbel.mono (by omega)⟩
      | some b' =>
        have hO : iOut ps most f k k = (b' : Int) := by unfold iOut; unfold topOf at htop; rw [htop]
        have HK := hide (keepOf_some htop)
        have hbd := topOf_bd htop
        clear htop
        rw [hO]
        clear hO
        have e0 : (0 : Int) < (b' : Int) := by omega
        have cf : wr.cell? ⟨fb, 0, none⟩ = some (selfFn pb mb fb kb) := heap_cell CAPR.out.f 0
        unfold selfFn at cf
        go_wp2_with fail
        refine (IH.out (b' - f) (by omega) f b' v zs wr rfl (by omega) (by omega) (by omega) (by omega) (HS0.out.below (Below.mono hbel (by omega))) CAPR.out).mono ?_
        rintro e w1 ⟨v1, rfl, hcap1, hb1⟩
        have hz1 := hb1.size
        have ck : w1.cell? ⟨kb, 0, none⟩ = some v1 := heap_cell hcap1.k 0
        have CAP1 := hide hcap1
        have OWN1 := hide hcap1.own
        have lk1 := heap_lt hcap1.k
        have hl1 := keepL_len (ps := ps) (most := most) (b' - f) f b'
        have hl2 : (zs ++ keepOf ps most f b').length ≤ 2000 := by rw [List.length_append]; unfold keepOf; omega
        clear hcap1
        have hbw1 : Below base w w1 := (hbel.mono hbase).trans hb1
        have hb2a : Below base w (w1.alloc (.cells #[.int .i64 (b' : Int)] 3)) := hbw1.alloc (by omega) _
        go_wp2_with (at_builtin; refine app_one rfl _ _ rfl base v1 (zs ++ keepOf ps most f b') rfl (OWN1.out.below (by (repeat' (first | (with_reducible exact Below.refl _ _) | (with_reducible assumption) | (with_reducible refine below_ext _ ?_ ?_) | (with_reducible refine Below.alloc ?_ ?_ _) | (with_reducible refine Below.drew ?_) | (with_reducible refine below_drewN ?_ _) | (with_reducible refine le_drewN _ ?_) | (with_reducible refine Below.setCell ?_ ?_ _) | (with_reducible exact Nat.le_refl _) | (with_reducible refine le_ext _ ?_) | (with_reducible refine le_alloc _ ?_) | (with_reducible refine le_setCell _ _ ?_) | (with_reducible refine le_drew ?_) | omega | (simp; done) | (simp; omega))))) (b' : Int) _ _ rfl (by simp [go_sem]) (by omega) (by simp; omega) ?_; intro v' w' hown' hb' hat hgr; obtain ⟨A', n', c', rfl⟩ := own_slice hown'; obtain ⟨hkk, hcap2⟩ := Cap.put CAP1.out hgr hown' hat; have ck2 := heap_cell hkk 0; have fk2 := heap_frozen hkk 0; simp at ck2; have CAP2 := hide hcap2; have lk2 := heap_lt hkk; have hw2 := hb'.size; have hb2 := Below.setCell (p := ⟨kb, 0, none⟩) (hb2a.trans hb') CAP1.out.le (.slice A' n' c'); have cw : w'.cell? ⟨fb, 0, none⟩ = some (selfFn pb mb fb kb) := heap_cell ((Below.heap_setCell w' _ _ fb CAP1.out.ne.2.2).symm.trans hcap2.f) 0; unfold selfFn at cw; have nfk : ¬ kb = fb := fun e => CAP1.out.ne.2.2 e.symm; have nkf : ¬ fb = kb := CAP1.out.ne.2.2; clear hkk hcap2 hgr)
        refine (IH.out (k - b') (by omega) b' k _ _ _ rfl (by omega) (by omega) ?_ (Nat.le_trans hbase hb2.size) (HS0.out.below hb2) CAP2.out).mono ?_
        · simp only [List.length_append, List.length_cons, List.length_nil]; unfold keepOf; omega
        rintro e w3 ⟨v3, rfl, hcap3, hb3⟩
        have HCAP3 := hide hcap3
        clear hcap3
        go_wp2
        go_end0
        exact ⟨v3, rfl, by rw [HK.out]; simpa [List.append_assoc] using HCAP3.out, hb2.trans hb3⟩
end Go.Proofs.Ytgeilljbmjajnaa
