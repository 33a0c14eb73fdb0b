
/- The reference's witness: the first three vertices of a hull whose triangle has a point. -/
import Derived.Test.YtoendanihhocjaaTri
import Derived.Test.YtoendanihhocjaaVals
import Derived.Outline
set_option linter.unusedVariables false
set_option linter.unusedSimpArgs false
namespace Go.Proofs.Ytoendanihhocjaa
open Go.RowKit

/-- The triangle of the vertices i, k, n of h has q. -/
def triAt (h : List Pt) (q : Pt) (i k n : Nat) : Bool := triB (gp h i) (gp h k) (gp h n) q
/-- Three indices in order. -/
def Idx (m i k n : Nat) : Prop := i ≤ k ∧ k ≤ n ∧ n < m
/-- (i, k, n) lies ahead of (a, b, c). -/
def Ahead (i k n a b c : Nat) : Prop := i < a ∨ (i = a ∧ (k < b ∨ (k = b ∧ n < c)))
/-- No three indices ahead of (a, b, c) have q in their triangle. -/
def NoWit (h : List Pt) (q : Pt) (a b c : Nat) : Prop := ∀ i k n, Idx h.length i k n → Ahead i k n a b c → triAt h q i k n = false
/-- zs are the first three indices whose triangle has q; none, if there are none. -/
def IsWit (h : List Pt) (q : Pt) (zs : List Int) : Prop := (∃ i k n : Nat, Idx h.length i k n ∧ triAt h q i k n = true ∧ NoWit h q i k n ∧ zs = [(i : Int), (k : Int), (n : Int)]) ∨ (NoWit h q h.length 0 0 ∧ zs = [])
theorem NoWit.start (h : List Pt) (q : Pt) : NoWit h q 0 0 0 := fun i k n _ ha => by unfold Ahead at ha; omega
theorem NoWit.n_ {h : List Pt} {q : Pt} {a b c : Nat} (hn : NoWit h q a b c) (ht : triAt h q a b c = false) : NoWit h q a b (c + 1) := fun i k n hi ha => by
  by_cases he : i = a ∧ k = b ∧ n = c
  · obtain ⟨rfl, rfl, rfl⟩ := he; exact ht
  · exact hn i k n hi (by unfold Ahead at *; omega)
theorem NoWit.k_ {h : List Pt} {q : Pt} {a b : Nat} (hn : NoWit h q a b h.length) : NoWit h q a (b + 1) (b + 1) := fun i k n hi ha => hn i k n hi (by unfold Ahead Idx at *; omega)
theorem NoWit.i_ {h : List Pt} {q : Pt} {a : Nat} (hn : NoWit h q a h.length h.length) : NoWit h q (a + 1) (a + 1) (a + 1) := fun i k n hi ha => hn i k n hi (by unfold Ahead Idx at *; omega)
theorem NoWit.i0 {h : List Pt} {q : Pt} (hn : NoWit h q h.length h.length h.length) : NoWit h q h.length 0 0 := fun i k n hi ha => hn i k n hi (by unfold Ahead Idx at *; omega)
theorem IsWit.uniq {h : List Pt} {q : Pt} {zs ys : List Int} (hz : IsWit h q zs) (hy : IsWit h q ys) : zs = ys := by
  rcases hz with ⟨i, k, n, a1, a2, a3, rfl⟩ | ⟨a3, rfl⟩ <;> rcases hy with ⟨i', k', n', b1, b2, b3, rfl⟩ | ⟨b3, rfl⟩
  · by_cases he : Ahead i k n i' k' n'
    · exact absurd (b3 _ _ _ a1 he) (by rw [a2]; simp)
    · by_cases he' : Ahead i' k' n' i k n
      · exact absurd (a3 _ _ _ b1 he') (by rw [b2]; simp)
      · have : i = i' ∧ k = k' ∧ n = n' := by unfold Ahead at *; omega
        obtain ⟨rfl, rfl, rfl⟩ := this
        rfl
  · exact absurd (b3 _ _ _ a1 (by unfold Ahead; unfold Idx at a1; omega)) (by rw [a2]; simp)
  · exact absurd (a3 _ _ _ b1 (by unfold Ahead; unfold Idx at b1; omega)) (by rw [b2]; simp)
  · rfl
theorem IsWit.len {h : List Pt} {q : Pt} {zs : List Int} (hz : IsWit h q zs) : zs.length = 3 ∨ zs.length = 0 := by
  rcases hz with ⟨i, k, n, _, _, _, rfl⟩ | ⟨_, rfl⟩
  · exact .inl rfl
  · exact .inr rfl
theorem IsWit.pos {h : List Pt} {q : Pt} {zs : List Int} (hz : IsWit h q zs) : 0 < zs.length ↔ WitB h q := by
  rcases hz with ⟨i, k, n, a1, a2, _, rfl⟩ | ⟨a3, rfl⟩
  · exact ⟨fun _ => ⟨i, k, n, a1.1, a1.2.1, a1.2.2, a2⟩, fun _ => by simp⟩
  · refine ⟨fun h => absurd h (Nat.lt_irrefl 0), fun ⟨i, k, n, h1, h2, h3, h4⟩ => ?_⟩
    have := a3 i k n ⟨h1, h2, h3⟩ (by unfold Ahead; omega)
    exact absurd this (by unfold triAt; rw [h4]; simp)
theorem Own.lits (w : World) (base : Nat) (zs : List Int) (hb : base ≤ w.heap.size) (hl : zs.length ≤ 1000) : Own (w.alloc (.cells (zs.map (Value.int .i64)).toArray 3)) base (.slice (some ⟨w.heap.size, 0, none⟩) zs.length zs.length) zs :=
  ⟨by simp, .inr ⟨w.heap.size, zs.length, (zs.map (Value.int .i64)).toArray, rfl, hb, heap_alloc_new w _, Nat.le_refl _, by unfold maxLen; omega, by simp, by simp [List.take_of_length_le]⟩⟩
set_option maxHeartbeats 2000000 in
theorem switness_any (h : List Pt) (x y : Int) (A : Option Addr) (m c : Nat) (w : World) (hl : h.length = m) (hm : m ≤ 1000) (hx : -100000 ≤ x ∧ x ≤ 100000) (hy : -100000 ≤ y ∧ y ≤ 100000) (hb : ∀ p ∈ h, (-100000 ≤ p.x ∧ p.x ≤ 100000) ∧ -100000 ≤ p.y ∧ p.y ≤ 100000) (hs : PtsAt w w.heap.size A h) :
    Calls Try.prog 53 #[.slice A m c, .agg #[.int .i64 x, .int .i64 y]] w fun e w' => ∃ v zs, e = .returned v ∧ Own w' w.heap.size v zs ∧ IsWit h ⟨x, y⟩ zs ∧ ∃ x, w' = ext w x := by
  have HL := hide hl
  have HB := hide hb
  have HS := hide hs
  have PB : Hid (∀ i, i < m → (-100000 ≤ (pX h i) ∧ (pX h i) ≤ 100000) ∧ -100000 ≤ (pY h i) ∧ (pY h i) ≤ 100000) := hide (fun i hi => hb _ (gp_mem (by rw [hl]; exact hi)))
  clear hl hb hs
  go_enter Try.func53, Try.ntmps53
  go_wp2
  go_loopw [5, 6, 7] (fun u5 u6 u7 wr => ∃ i : Nat, i ≤ m ∧ u5 = .int .i64 i ∧ Hid (NoWit h ⟨x, y⟩ i i i) ∧ Hid (wr.heap[w.heap.size]? = some (.cells #[.int .i64 x, .int .i64 y] 25 (0, 0))) ∧ Below w.heap.size w wr ∧ w.heap.size + 1 ≤ wr.heap.size) (fun u5 _ _ _ => m - (intOf u5).toNat)
  case atStart => exact ⟨0, Nat.zero_le _, rfl, NoWit.start _ _, heap_alloc_new w _, (by (repeat' (first | (with_reducible exact Below.refl _ _) | (with_reducible assumption) | (with_reducible refine below_ext _ ?_ ?_) | (with_reducible refine Below.alloc ?_ ?_ _) | (with_reducible refine Below.drew ?_) | (with_reducible refine below_drewN ?_ _) | (with_reducible refine le_drewN _ ?_) | (with_reducible refine Below.setCell ?_ ?_ _) | (with_reducible exact Nat.le_refl _) | (with_reducible refine le_ext _ ?_) | (with_reducible refine le_alloc _ ?_) | (with_reducible refine le_setCell _ _ ?_) | (with_reducible refine le_drew ?_) | omega | (simp; done) | (simp; omega)))), by simp⟩
  case round =>
    obtain ⟨i, hi, rfl, NW, BX, hbel, hsz⟩ := hrel
    obtain ⟨W0, hW0⟩ : ∃ W0, W0 = wr := ⟨_, rfl⟩
    subst hW0
    by_cases hlt : i < m
    · have hd1 : decide ((i : Int) < (m : Int)) = true := decide_eq_true (by omega)
      have NW0 : Hid (NoWit h ⟨x, y⟩ i i i) := NW
      go_wp2
      go_loopw [6, 7] (fun u6 u7 wk => ∃ k : Nat, i ≤ k ∧ k ≤ m ∧ u6 = .int .i64 k ∧ Hid (NoWit h ⟨x, y⟩ i k k) ∧ Hid (wk.heap[w.heap.size]? = some (.cells #[.int .i64 x, .int .i64 y] 25 (0, 0))) ∧ Below w.heap.size w wk ∧ w.heap.size + 1 ≤ wk.heap.size) (fun u6 _ _ => m - (intOf u6).toNat)
      case atStart => exact ⟨i, Nat.le_refl _, hi, rfl, NW0, BX, hbel, hsz⟩
      case round =>
        obtain ⟨W1, hW1⟩ : ∃ W1, W1 = wr := ⟨_, rfl⟩
        subst hW1
        obtain ⟨k, hik, hk, rfl, NW1, BX1, hbel1, hsz1⟩ := hrel
        by_cases hltk : k < m
        · have hd2 : decide ((k : Int) < (m : Int)) = true := decide_eq_true (by omega)
          go_wp2
          go_loopw [7] (fun u7 wn => ∃ n : Nat, k ≤ n ∧ n ≤ m ∧ u7 = .int .i64 n ∧ Hid (NoWit h ⟨x, y⟩ i k n) ∧ Hid (wn.heap[w.heap.size]? = some (.cells #[.int .i64 x, .int .i64 y] 25 (0, 0))) ∧ Below w.heap.size w wn ∧ w.heap.size + 1 ≤ wn.heap.size) (fun u7 _ => m - (intOf u7).toNat)
          case atStart => exact ⟨k, Nat.le_refl _, hk, rfl, NW1, BX1, hbel1, hsz1⟩
          case round =>
            obtain ⟨n, hkn, hn, rfl, NW2, BX2, hbel2, hsz2⟩ := hrel
            by_cases hltn : n < m
            · have hd3 : decide ((n : Int) < (m : Int)) = true := decide_eq_true (by omega)
              obtain ⟨b, o, rfl, hbl, hc⟩ := HS.out (by rw [HL.out]; omega)
              obtain ⟨i1, i2⟩ := hc i (by rw [HL.out]; omega)
              obtain ⟨k1, k2⟩ := hc k (by rw [HL.out]; omega)
              obtain ⟨n1, n2⟩ := hc n (by rw [HL.out]; omega)
              have ci1 := (hbel2.cell (p := ⟨b, o + i * 2, none⟩) hbl).trans i1
              have ci2 := (hbel2.cell (p := ⟨b, o + i * 2 + 1, none⟩) hbl).trans i2
              have ck1 := (hbel2.cell (p := ⟨b, o + k * 2, none⟩) hbl).trans k1
              have ck2 := (hbel2.cell (p := ⟨b, o + k * 2 + 1, none⟩) hbl).trans k2
              have cn1 := (hbel2.cell (p := ⟨b, o + n * 2, none⟩) hbl).trans n1
              have cn2 := (hbel2.cell (p := ⟨b, o + n * 2 + 1, none⟩) hbl).trans n2
              have c0 := heap_cell BX2.out 0
              have c1 := heap_cell BX2.out 1
              simp at c0 c1
              obtain ⟨⟨p1, p2⟩, p3, p4⟩ := PB.out i hlt
              obtain ⟨⟨p5, p6⟩, p7, p8⟩ := PB.out k hltk
              obtain ⟨⟨p9, p10⟩, p11, p12⟩ := PB.out n hltn
              clear hc i1 i2 k1 k2 n1 n2
              have CT : Hid (∀ W, Calls Try.prog 81 #[.agg #[.int .i64 (pX h i), .int .i64 (pY h i)], .agg #[.int .i64 (pX h k), .int .i64 (pY h k)], .agg #[.int .i64 (pX h n), .int .i64 (pY h n)], .agg #[.int .i64 x, .int .i64 y]] W fun r w' => r = .returned (.bool (triAt h ⟨x, y⟩ i k n)) ∧ ∃ n, w' = ext W n) := hide (fun W => sinTri_any _ _ _ _ _ _ _ _ W ⟨p1, p2⟩ ⟨p3, p4⟩ ⟨p5, p6⟩ ⟨p7, p8⟩ ⟨p9, p10⟩ ⟨p11, p12⟩ hx hy)
              cases ht : triAt h ⟨x, y⟩ i k n
              · have NX := hide (NW2.out.n_ ht)
                rw [ht] at CT
                clear ht
                go_wp2_with fail
                refine wp_region_ext (by kernel_rfl) (by kernel_rfl) ?_
                repeat (go_big_quiet_step ((first | (go_at_call 81; exact Calls.in_ext (CT.out _)))))
                refine wpQuiet_nil ?_
                rintro _ hnq
                have hzq := ext_sz hnq
                obtain ⟨nq, rfl⟩ := hnq
                (try simp at hzq)
                go_wp2_with fail
                exact ⟨⟨n + 1, by omega, by omega, by go_num, NX, hide (((ext_below wr nq).block w.heap.size (by omega)).trans BX2.out), (by (repeat' (first | (with_reducible exact Below.refl _ _) | (with_reducible assumption) | (with_reducible refine below_ext _ ?_ ?_) | (with_reducible refine Below.alloc ?_ ?_ _) | (with_reducible refine Below.drew ?_) | (with_reducible refine below_drewN ?_ _) | (with_reducible refine le_drewN _ ?_) | (with_reducible refine Below.setCell ?_ ?_ _) | (with_reducible exact Nat.le_refl _) | (with_reducible refine le_ext _ ?_) | (with_reducible refine le_alloc _ ?_) | (with_reducible refine le_setCell _ _ ?_) | (with_reducible refine le_drew ?_) | omega | (simp; done) | (simp; omega)))), by omega⟩, by simp [intOf]; omega⟩
              · have HT := hide ht
                rw [ht] at CT
                clear ht
                go_wp2_with fail
                refine wp_region_ext (by kernel_rfl) (by kernel_rfl) ?_
                repeat (go_big_quiet_step ((first | (go_at_call 81; exact Calls.in_ext (CT.out _)))))
                refine wpQuiet_nil ?_
                rintro _ hnq
                have hzq := ext_sz hnq
                obtain ⟨nq, rfl⟩ := hnq
                (try simp at hzq)
                go_wp2_with fail
                go_ret
                have LT := Own.lits (ext wr nq) w.heap.size [(i : Int), (k : Int), (n : Int)] (by omega) (by simp)
                exact ⟨_, _, rfl, LT, .inl ⟨i, k, n, ⟨hik, hkn, by rw [HL.out]; exact hltn⟩, HT.out, NW2.out, rfl⟩, ext_mk (hbel2.trans (by (repeat' (first | (with_reducible exact Below.refl _ _) | (with_reducible assumption) | (with_reducible refine below_ext _ ?_ ?_) | (with_reducible refine Below.alloc ?_ ?_ _) | (with_reducible refine Below.drew ?_) | (with_reducible refine below_drewN ?_ _) | (with_reducible refine le_drewN _ ?_) | (with_reducible refine Below.setCell ?_ ?_ _) | (with_reducible exact Nat.le_refl _) | (with_reducible refine le_ext _ ?_) | (with_reducible refine le_alloc _ ?_) | (with_reducible refine le_setCell _ _ ?_) | (with_reducible refine le_drew ?_) | omega | (simp; done) | (simp; omega)))))⟩
            · have hnm : n = m := by omega
              subst hnm
              have hd3 : decide ((n : Int) < (n : Int)) = false := decide_eq_false (by omega)
              have NX := hide (NoWit.k_ (h := h) (q := ⟨x, y⟩) (a := i) (b := k) (by rw [HL.out]; exact NW2.out))
              go_wp2_with fail
              exact ⟨⟨k + 1, by omega, by omega, by go_num, NX, BX2, hbel2, hsz2⟩, by simp [intOf]; omega⟩
        · have hkm : k = m := by omega
          subst hkm
          have hd2 : decide ((k : Int) < (k : Int)) = false := decide_eq_false (by omega)
          have NX := hide (NoWit.i_ (h := h) (q := ⟨x, y⟩) (a := i) (by rw [HL.out]; exact NW1.out))
          go_wp2_with fail
          exact ⟨⟨i + 1, by omega, by go_num, NX, BX1, hbel1, hsz1⟩, by simp [intOf]; omega⟩
    · have hkn : i = m := by omega
      subst hkn
      have hd1 : decide ((i : Int) < (i : Int)) = false := decide_eq_false (by omega)
      have NX := hide (NoWit.i0 (h := h) (q := ⟨x, y⟩) (by rw [HL.out]; exact NW.out))
      go_wp2_with fail
      go_ret
      exact ⟨_, _, rfl, Own.lits W0 w.heap.size [] (by omega) (by simp), .inr ⟨NX.out, rfl⟩, ext_mk (hbel.trans (by (repeat' (first | (with_reducible exact Below.refl _ _) | (with_reducible assumption) | (with_reducible refine below_ext _ ?_ ?_) | (with_reducible refine Below.alloc ?_ ?_ _) | (with_reducible refine Below.drew ?_) | (with_reducible refine below_drewN ?_ _) | (with_reducible refine le_drewN _ ?_) | (with_reducible refine Below.setCell ?_ ?_ _) | (with_reducible exact Nat.le_refl _) | (with_reducible refine le_ext _ ?_) | (with_reducible refine le_alloc _ ?_) | (with_reducible refine le_setCell _ _ ?_) | (with_reducible refine le_drew ?_) | omega | (simp; done) | (simp; omega)))))⟩
end Go.Proofs.Ytoendanihhocjaa
