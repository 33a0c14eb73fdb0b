
/- The first three vertices of a hull whose triangle has a point: the program's and the reference's (printed by tools/genwit.py). -/
import Derived.Test.YtelhidonhldjeaaTriI
import Derived.Test.YtelhidonhldjeaaApp
import Derived.Test.YtelhidonhldjeaaVals
set_option linter.unusedVariables false
set_option linter.unusedSimpArgs false
namespace Go.Proofs.Ytelhidonhldjeaa
open Go.RowKit

def tB (hs : List Pt) (q : Pt) (i k m : Nat) : Bool := triB (gp hs i) (gp hs k) (gp hs m) q
/-- zs is the first triple in order whose triangle has q, or empty if there is none. -/
def isWL (hs : List Pt) (q : Pt) (zs : List Int) : Prop :=
  (∃ i k m : Nat, i ≤ k ∧ k ≤ m ∧ m < hs.length ∧ tB hs q i k m = true ∧ (∀ a b c : Nat, a ≤ b → b ≤ c → c < hs.length → (a < i ∨ (a = i ∧ (b < k ∨ (b = k ∧ c < m)))) → tB hs q a b c = false) ∧ zs = [(i : Int), (k : Int), (m : Int)]) ∨
  ((∀ a b c : Nat, a ≤ b → b ≤ c → c < hs.length → tB hs q a b c = false) ∧ zs = [])
theorem isWL_only {hs : List Pt} {q : Pt} {zs ys : List Int} (h : isWL hs q zs) (h' : isWL hs q ys) : zs = ys := by
  rcases h with ⟨i, k, m, h1, h2, h3, h4, h5, e⟩ | ⟨h5, e⟩ <;> rcases h' with ⟨i', k', m', h1', h2', h3', h4', h5', e'⟩ | ⟨h5', e'⟩
  · by_cases hh : i = i' ∧ k = k' ∧ m = m'
    · obtain ⟨rfl, rfl, rfl⟩ := hh
      rw [e, e']
    · rcases Nat.lt_trichotomy i i' with a | a | a
      · have := h5' i k m h1 h2 h3 (.inl a); rw [h4] at this; cases this
      · rcases Nat.lt_trichotomy k k' with b | b | b
        · have := h5' i k m h1 h2 h3 (.inr ⟨a, .inl b⟩); rw [h4] at this; cases this
        · rcases Nat.lt_trichotomy m m' with c | c | c
          · have := h5' i k m h1 h2 h3 (.inr ⟨a, .inr ⟨b, c⟩⟩); rw [h4] at this; cases this
          · exact absurd ⟨a, b, c⟩ hh
          · have := h5 i' k' m' h1' h2' h3' (.inr ⟨a.symm, .inr ⟨b.symm, c⟩⟩); rw [h4'] at this; cases this
        · have := h5 i' k' m' h1' h2' h3' (.inr ⟨a.symm, .inl b⟩); rw [h4'] at this; cases this
      · have := h5 i' k' m' h1' h2' h3' (.inl a); rw [h4'] at this; cases this
  · have := h5' i k m h1 h2 h3; rw [h4] at this; cases this
  · have := h5 i' k' m' h1' h2' h3'; rw [h4'] at this; cases this
  · rw [e, e']
theorem isWL_len {hs : List Pt} {q : Pt} {zs : List Int} (h : isWL hs q zs) : zs.length ≤ 3 := by
  rcases h with ⟨i, k, m, _, _, _, _, _, e⟩ | ⟨_, e⟩ <;> rw [e] <;> simp
theorem Own.lit3 (w : World) (x y z : Int) : Own (w.alloc (.cells #[.int .i64 x, .int .i64 y, .int .i64 z] 3)) w.heap.size (.slice (some ⟨w.heap.size, 0, none⟩) 3 3) [x, y, z] :=
  ⟨rfl, .inr ⟨w.heap.size, 3, #[.int .i64 x, .int .i64 y, .int .i64 z], rfl, Nat.le_refl _, heap_alloc_new w _, Nat.le_refl _, by simp [maxLen], rfl, rfl⟩⟩
theorem Own.lit0 (w : World) : Own (w.alloc (.cells #[] 3)) w.heap.size (.slice (some ⟨w.heap.size, 0, none⟩) 0 0) [] :=
  ⟨rfl, .inr ⟨w.heap.size, 0, #[], rfl, Nat.le_refl _, heap_alloc_new w _, Nat.le_refl _, by simp [maxLen], rfl, rfl⟩⟩
set_option maxRecDepth 20000 in
set_option maxHeartbeats 2000000 in
theorem iwit_any (hs : List Pt) (x y : Int) (A : Option Addr) (n c : Nat) (w : World) (hn : hs.length = n) (hm : n ≤ 1000) (hb : ∀ p ∈ hs, (-100000 ≤ p.x ∧ p.x ≤ 100000) ∧ -100000 ≤ p.y ∧ p.y ≤ 100000) (hx : -100000 ≤ x ∧ x ≤ 100000) (hy : -100000 ≤ y ∧ y ≤ 100000) (hp : PtsAt w w.heap.size A hs) :
    Calls Try.prog 69 #[.slice A n c, .agg #[.int .i64 x, .int .i64 y]] w fun e w' => ∃ v zs, e = .returned v ∧ isWL hs ⟨x, y⟩ zs ∧ Own w' w.heap.size v zs ∧ ∃ u, w' = ext w u := by
  have HN := hide hn
  have HP := hide hp
  have TI := hide (fun (i k m : Nat) (W : World) (hi : i < n) (hk : k < n) (hm' : m < n) => by
    have h1 := hb _ (gp_mem (show i < hs.length by omega))
    have h2 := hb _ (gp_mem (show k < hs.length by omega))
    have h3 := hb _ (gp_mem (show m < hs.length by omega))
    exact itri_any (gp hs i).x (gp hs i).y (gp hs k).x (gp hs k).y (gp hs m).x (gp hs m).y x y W h1.1 h1.2 h2.1 h2.2 h3.1 h3.2 hx hy)
  have WLF := hide (fun (i k m : Nat) (h1 : i ≤ k) (h2 : k ≤ m) (h3 : m < n) (h4 : tB hs ⟨x, y⟩ i k m = true) (h5 : ∀ a b c : Nat, a ≤ b → b ≤ c → c < n → (a < i ∨ (a = i ∧ (b < k ∨ (b = k ∧ c < m)))) → tB hs ⟨x, y⟩ a b c = false) => show isWL hs ⟨x, y⟩ [(i : Int), (k : Int), (m : Int)] from .inl ⟨i, k, m, h1, h2, by rw [hn]; exact h3, h4, by rw [hn]; exact h5, rfl⟩)
  have WLN := hide (fun (h5 : ∀ a b c : Nat, a ≤ b → b ≤ c → c < n → tB hs ⟨x, y⟩ a b c = false) => show isWL hs ⟨x, y⟩ [] from .inr ⟨by rw [hn]; exact h5, rfl⟩)
  obtain ⟨W0, hW0⟩ : ∃ W0, W0 = w.alloc (.cells #[.int .i64 x, .int .i64 y] 39) := ⟨_, rfl⟩
  have bx0 : W0.cell? ⟨w.heap.size, 0, none⟩ = some (.int .i64 x) := by rw [hW0]; exact (heap_cell (heap_alloc_new _ _) 0).trans rfl
  have bx1 : W0.cell? ⟨w.heap.size, 1, none⟩ = some (.int .i64 y) := by rw [hW0]; exact (heap_cell (heap_alloc_new _ _) 1).trans rfl
  have B0 : Below w.heap.size w W0 := by rw [hW0]; exact (show Below w.heap.size w (w.alloc (.cells #[.int .i64 x, .int .i64 y] 39)) from (by (repeat' (first | (with_reducible exact Below.refl _ _) | (with_reducible assumption) | (with_reducible refine below_ext _ ?_ ?_) | (with_reducible refine Below.alloc ?_ ?_ _) | (with_reducible refine Below.drew ?_) | (with_reducible refine below_drewN ?_ _) | (with_reducible refine le_drewN _ ?_) | (with_reducible refine Below.setCell ?_ ?_ _) | (with_reducible exact Nat.le_refl _) | (with_reducible refine le_ext _ ?_) | (with_reducible refine le_alloc _ ?_) | (with_reducible refine le_setCell _ _ ?_) | (with_reducible refine le_drew ?_) | omega | (simp; done) | (simp; omega)))))
  have lt0 : w.heap.size < W0.heap.size := World.block_lt_of_cell? W0 _ bx0
  clear hb hn hp hx hy
  go_enter Try.func69, Try.ntmps69
  have B0h := hide B0
  have HW := hide hW0
  clear hW0 B0
  go_wp2_with fail
  rw [← HW.out]
  clear HW
  go_loopw [5, 6, 7, 10] (fun _ _ _ u10 wr => ∃ i : Nat, i ≤ n ∧ u10 = .int .i64 i ∧ Hid (∀ a b c : Nat, a < i → a ≤ b → b ≤ c → c < n → tB hs ⟨x, y⟩ a b c = false) ∧ ∃ u, wr = ext W0 u) (fun _ _ _ u10 _ => n - (intOf u10).toNat)
  case atStart => exact ⟨0, Nat.zero_le _, rfl, hide (fun a b c h => by omega), ext_same W0⟩
  case round =>
    obtain ⟨i, hi, rfl, H1, x1, rfl⟩ := hrel
    have hz1 := ext_size W0 x1
    by_cases hli : i < n
    · go_wp2_with fail
      go_loopw [6, 7] (fun u6 _ wr => ∃ k : Nat, i ≤ k ∧ k ≤ n ∧ u6 = .int .i64 k ∧ Hid (∀ b c : Nat, b < k → i ≤ b → b ≤ c → c < n → tB hs ⟨x, y⟩ i b c = false) ∧ ∃ u, wr = ext W0 u) (fun u6 _ _ => n - (intOf u6).toNat)
      case atStart => exact ⟨i, Nat.le_refl _, by omega, rfl, hide (fun b c h1 h2 => by omega), x1, rfl⟩
      case round =>
        obtain ⟨k, hik, hk, rfl, H2, x2, rfl⟩ := hrel
        have hz2 := ext_size W0 x2
        by_cases hlk : k < n
        · go_wp2_with fail
          go_loopw [7] (fun u7 wr => ∃ m : Nat, k ≤ m ∧ m ≤ n ∧ u7 = .int .i64 m ∧ Hid (∀ c : Nat, c < m → k ≤ c → tB hs ⟨x, y⟩ i k c = false) ∧ ∃ u, wr = ext W0 u) (fun u7 _ => n - (intOf u7).toNat)
          case atStart => exact ⟨k, Nat.le_refl _, by omega, rfl, hide (fun c h1 h2 => by omega), x2, rfl⟩
          case round =>
            obtain ⟨m, hkm, hm2, rfl, H3, x3, rfl⟩ := hrel
            have hz3 := ext_size W0 x3
            by_cases hlm : m < n
            · obtain ⟨b, o, rfl, hbl, hc⟩ := HP.out (by rw [HN.out]; omega)
              obtain ⟨p1, p2⟩ := hc i (by rw [HN.out]; omega)
              obtain ⟨p3, p4⟩ := hc k (by rw [HN.out]; omega)
              obtain ⟨p5, p6⟩ := hc m (by rw [HN.out]; omega)
              have g1 := (B0h.out.cell (p := ⟨b, o + i * 2, none⟩) hbl).trans p1
              have g2 := (B0h.out.cell (p := ⟨b, o + i * 2 + 1, none⟩) hbl).trans p2
              have g3 := (B0h.out.cell (p := ⟨b, o + k * 2, none⟩) hbl).trans p3
              have g4 := (B0h.out.cell (p := ⟨b, o + k * 2 + 1, none⟩) hbl).trans p4
              have g5 := (B0h.out.cell (p := ⟨b, o + m * 2, none⟩) hbl).trans p5
              have g6 := (B0h.out.cell (p := ⟨b, o + m * 2 + 1, none⟩) hbl).trans p6
              have lb : b < W0.heap.size := by omega
              have T := hide (fun W => TI.out i k m W hli hlk hlm)
              have HT : Hid (tB hs ⟨x, y⟩ i k m = triB ⟨(gp hs i).x, (gp hs i).y⟩ ⟨(gp hs k).x, (gp hs k).y⟩ ⟨(gp hs m).x, (gp hs m).y⟩ ⟨x, y⟩) := hide rfl
              change W0.cell? ⟨b, o + i * 2, none⟩ = some (.int .i64 (gp hs i).x) at g1
              change W0.cell? ⟨b, o + i * 2 + 1, none⟩ = some (.int .i64 (gp hs i).y) at g2
              change W0.cell? ⟨b, o + k * 2, none⟩ = some (.int .i64 (gp hs k).x) at g3
              change W0.cell? ⟨b, o + k * 2 + 1, none⟩ = some (.int .i64 (gp hs k).y) at g4
              change W0.cell? ⟨b, o + m * 2, none⟩ = some (.int .i64 (gp hs m).x) at g5
              change W0.cell? ⟨b, o + m * 2 + 1, none⟩ = some (.int .i64 (gp hs m).y) at g6
              have q1 : (0 : Int) ≤ (i : Int) := by omega
              have q2 : (i : Int) < (n : Int) := by omega
              have q3 : (0 : Int) ≤ (k : Int) := by omega
              have q4 : (k : Int) < (n : Int) := by omega
              have q5 : (0 : Int) ≤ (m : Int) := by omega
              have q6 : (m : Int) < (n : Int) := by omega
              clear hc p1 p2 p3 p4 p5 p6
              generalize (gp hs i).x = X1 at *
              generalize (gp hs i).y = Y1 at *
              generalize (gp hs k).x = X2 at *
              generalize (gp hs k).y = Y2 at *
              generalize (gp hs m).x = X3 at *
              generalize (gp hs m).y = Y3 at *
              by_cases ht : tB hs ⟨x, y⟩ i k m = true
              · have HY := hide (WLF.out i k m hik hkm hlm ht (fun a b c h1 h2 h3 h4 => by
                  rcases h4 with h4 | ⟨rfl, h4 | ⟨rfl, h4⟩⟩
                  · exact H1.out a b c h4 h1 h2 h3
                  · exact H2.out b c h4 h1 h2 h3
                  · exact H3.out c h4 h2))
                rw [HT.out] at ht
                rw [ht] at T
                clear ht HT
                go_wp2_with fail
                refine wp_region_ext (by kernel_rfl) (by kernel_rfl) ?_
                repeat (go_big_quiet_step ((first | (go_at_call 80; exact Calls.in_ext (T.out _)))))
                refine wpQuiet_nil ?_
                rintro _ hnq
                have hzq := ext_sz hnq
                obtain ⟨nq, rfl⟩ := hnq
                (try simp at hzq)
                go_wp2_with fail
                go_ret
                exact ⟨_, _, rfl, HY.out, (Own.lit3 _ _ _ _).base (by omega), ext_mk (B0h.out.trans (by (repeat' (first | (with_reducible exact Below.refl _ _) | (with_reducible assumption) | (with_reducible refine below_ext _ ?_ ?_) | (with_reducible refine Below.alloc ?_ ?_ _) | (with_reducible refine Below.drew ?_) | (with_reducible refine below_drewN ?_ _) | (with_reducible refine le_drewN _ ?_) | (with_reducible refine Below.setCell ?_ ?_ _) | (with_reducible exact Nat.le_refl _) | (with_reducible refine le_ext _ ?_) | (with_reducible refine le_alloc _ ?_) | (with_reducible refine le_setCell _ _ ?_) | (with_reducible refine le_drew ?_) | omega | (simp; done) | (simp; omega)))))⟩
              · have ht := eq_false_of_ne_true ht
                have HY := hide ht
                rw [HT.out] at ht
                rw [ht] at T
                clear ht HT
                go_wp2_with fail
                refine wp_region_ext (by kernel_rfl) (by kernel_rfl) ?_
                repeat (go_big_quiet_step ((first | (go_at_call 80; exact Calls.in_ext (T.out _)))))
                refine wpQuiet_nil ?_
                rintro _ hnq
                have hzq := ext_sz hnq
                obtain ⟨nq, rfl⟩ := hnq
                (try simp at hzq)
                go_wp2_with fail
                exact ⟨⟨m + 1, by omega, by omega, by go_num, hide (fun c h1 h2 => by
                  by_cases e : c = m
                  · rw [e]; exact HY.out
                  · exact H3.out c (by omega) h2), (ext_mk (by (repeat' (first | (with_reducible exact Below.refl _ _) | (with_reducible assumption) | (with_reducible refine below_ext _ ?_ ?_) | (with_reducible refine Below.alloc ?_ ?_ _) | (with_reducible refine Below.drew ?_) | (with_reducible refine below_drewN ?_ _) | (with_reducible refine le_drewN _ ?_) | (with_reducible refine Below.setCell ?_ ?_ _) | (with_reducible exact Nat.le_refl _) | (with_reducible refine le_ext _ ?_) | (with_reducible refine le_alloc _ ?_) | (with_reducible refine le_setCell _ _ ?_) | (with_reducible refine le_drew ?_) | omega | (simp; done) | (simp; omega)))))⟩, by simp [intOf]; omega⟩
            · have em : m = n := by omega
              have H3n : Hid (∀ c : Nat, c < n → k ≤ c → tB hs ⟨x, y⟩ i k c = false) := hide (fun c h1 h2 => H3.out c (by omega) h2)
              clear H3
              subst em
              go_wp2_with fail
              exact ⟨⟨k + 1, by omega, by omega, by go_num, hide (fun b c h1 h2 h3 h4 => by
                by_cases e : b = k
                · rw [e] at h3 ⊢; exact H3n.out c h4 h3
                · exact H2.out b c (by omega) h2 h3 h4), (ext_mk (by (repeat' (first | (with_reducible exact Below.refl _ _) | (with_reducible assumption) | (with_reducible refine below_ext _ ?_ ?_) | (with_reducible refine Below.alloc ?_ ?_ _) | (with_reducible refine Below.drew ?_) | (with_reducible refine below_drewN ?_ _) | (with_reducible refine le_drewN _ ?_) | (with_reducible refine Below.setCell ?_ ?_ _) | (with_reducible exact Nat.le_refl _) | (with_reducible refine le_ext _ ?_) | (with_reducible refine le_alloc _ ?_) | (with_reducible refine le_setCell _ _ ?_) | (with_reducible refine le_drew ?_) | omega | (simp; done) | (simp; omega)))))⟩, by simp [intOf]; omega⟩
        · have ek : k = n := by omega
          have H2n : Hid (∀ b c : Nat, b < n → i ≤ b → b ≤ c → c < n → tB hs ⟨x, y⟩ i b c = false) := hide (fun b c h1 h2 h3 h4 => H2.out b c (by omega) h2 h3 h4)
          clear H2
          subst ek
          go_wp2_with fail
          exact ⟨⟨i + 1, by omega, by go_num, hide (fun a b c h1 h2 h3 h4 => by
            by_cases e : a = i
            · rw [e] at h2 ⊢; exact H2n.out b c (by omega) h2 h3 h4
            · exact H1.out a b c (by omega) h2 h3 h4), (ext_mk (by (repeat' (first | (with_reducible exact Below.refl _ _) | (with_reducible assumption) | (with_reducible refine below_ext _ ?_ ?_) | (with_reducible refine Below.alloc ?_ ?_ _) | (with_reducible refine Below.drew ?_) | (with_reducible refine below_drewN ?_ _) | (with_reducible refine le_drewN _ ?_) | (with_reducible refine Below.setCell ?_ ?_ _) | (with_reducible exact Nat.le_refl _) | (with_reducible refine le_ext _ ?_) | (with_reducible refine le_alloc _ ?_) | (with_reducible refine le_setCell _ _ ?_) | (with_reducible refine le_drew ?_) | omega | (simp; done) | (simp; omega)))))⟩, by simp [intOf]; omega⟩
    · have ei : i = n := by omega
      have HY := hide (WLN.out (fun a b c h1 h2 h3 => H1.out a b c (by omega) h1 h2 h3))
      clear H1
      subst ei
      go_wp2_with fail
      go_ret
      exact ⟨_, _, rfl, HY.out, Own.nil _ _, ext_mk (B0h.out.trans (by (repeat' (first | (with_reducible exact Below.refl _ _) | (with_reducible assumption) | (with_reducible refine below_ext _ ?_ ?_) | (with_reducible refine Below.alloc ?_ ?_ _) | (with_reducible refine Below.drew ?_) | (with_reducible refine below_drewN ?_ _) | (with_reducible refine le_drewN _ ?_) | (with_reducible refine Below.setCell ?_ ?_ _) | (with_reducible exact Nat.le_refl _) | (with_reducible refine le_ext _ ?_) | (with_reducible refine le_alloc _ ?_) | (with_reducible refine le_setCell _ _ ?_) | (with_reducible refine le_drew ?_) | omega | (simp; done) | (simp; omega)))))⟩
set_option maxRecDepth 20000 in
set_option maxHeartbeats 2000000 in
theorem swit_any (hs : List Pt) (x y : Int) (A : Option Addr) (n c : Nat) (w : World) (hn : hs.length = n) (hm : n ≤ 1000) (hb : ∀ p ∈ hs, (-100000 ≤ p.x ∧ p.x ≤ 100000) ∧ -100000 ≤ p.y ∧ p.y ≤ 100000) (hx : -100000 ≤ x ∧ x ≤ 100000) (hy : -100000 ≤ y ∧ y ≤ 100000) (hp : PtsAt w w.heap.size A hs) :
    Calls Try.prog 72 #[.slice A n c, .agg #[.int .i64 x, .int .i64 y]] w fun e w' => ∃ v zs, e = .returned v ∧ isWL hs ⟨x, y⟩ zs ∧ Own w' w.heap.size v zs ∧ ∃ u, w' = ext w u := by
  have HN := hide hn
  have HP := hide hp
  have TI := hide (fun (i k m : Nat) (W : World) (hi : i < n) (hk : k < n) (hm' : m < n) => by
    have h1 := hb _ (gp_mem (show i < hs.length by omega))
    have h2 := hb _ (gp_mem (show k < hs.length by omega))
    have h3 := hb _ (gp_mem (show m < hs.length by omega))
    exact sinTri_any (gp hs i).x (gp hs i).y (gp hs k).x (gp hs k).y (gp hs m).x (gp hs m).y x y W h1.1 h1.2 h2.1 h2.2 h3.1 h3.2 hx hy)
  have WLF := hide (fun (i k m : Nat) (h1 : i ≤ k) (h2 : k ≤ m) (h3 : m < n) (h4 : tB hs ⟨x, y⟩ i k m = true) (h5 : ∀ a b c : Nat, a ≤ b → b ≤ c → c < n → (a < i ∨ (a = i ∧ (b < k ∨ (b = k ∧ c < m)))) → tB hs ⟨x, y⟩ a b c = false) => show isWL hs ⟨x, y⟩ [(i : Int), (k : Int), (m : Int)] from .inl ⟨i, k, m, h1, h2, by rw [hn]; exact h3, h4, by rw [hn]; exact h5, rfl⟩)
  have WLN := hide (fun (h5 : ∀ a b c : Nat, a ≤ b → b ≤ c → c < n → tB hs ⟨x, y⟩ a b c = false) => show isWL hs ⟨x, y⟩ [] from .inr ⟨by rw [hn]; exact h5, rfl⟩)
  obtain ⟨W0, hW0⟩ : ∃ W0, W0 = w.alloc (.cells #[.int .i64 x, .int .i64 y] 39) := ⟨_, rfl⟩
  have bx0 : W0.cell? ⟨w.heap.size, 0, none⟩ = some (.int .i64 x) := by rw [hW0]; exact (heap_cell (heap_alloc_new _ _) 0).trans rfl
  have bx1 : W0.cell? ⟨w.heap.size, 1, none⟩ = some (.int .i64 y) := by rw [hW0]; exact (heap_cell (heap_alloc_new _ _) 1).trans rfl
  have B0 : Below w.heap.size w W0 := by rw [hW0]; exact (show Below w.heap.size w (w.alloc (.cells #[.int .i64 x, .int .i64 y] 39)) from (by (repeat' (first | (with_reducible exact Below.refl _ _) | (with_reducible assumption) | (with_reducible refine below_ext _ ?_ ?_) | (with_reducible refine Below.alloc ?_ ?_ _) | (with_reducible refine Below.drew ?_) | (with_reducible refine below_drewN ?_ _) | (with_reducible refine le_drewN _ ?_) | (with_reducible refine Below.setCell ?_ ?_ _) | (with_reducible exact Nat.le_refl _) | (with_reducible refine le_ext _ ?_) | (with_reducible refine le_alloc _ ?_) | (with_reducible refine le_setCell _ _ ?_) | (with_reducible refine le_drew ?_) | omega | (simp; done) | (simp; omega)))))
  have lt0 : w.heap.size < W0.heap.size := World.block_lt_of_cell? W0 _ bx0
  clear hb hn hp hx hy
  go_enter Try.func72, Try.ntmps72
  have B0h := hide B0
  have HW := hide hW0
  clear hW0 B0
  go_wp2_with fail
  rw [← HW.out]
  clear HW
  go_loopw [5, 6, 7] (fun u5 _ _ wr => ∃ i : Nat, i ≤ n ∧ u5 = .int .i64 i ∧ Hid (∀ a b c : Nat, a < i → a ≤ b → b ≤ c → c < n → tB hs ⟨x, y⟩ a b c = false) ∧ ∃ u, wr = ext W0 u) (fun u5 _ _ _ => n - (intOf u5).toNat)
  case atStart => exact ⟨0, Nat.zero_le _, rfl, hide (fun a b c h => by omega), ext_same W0⟩
  case round =>
    obtain ⟨i, hi, rfl, H1, x1, rfl⟩ := hrel
    have hz1 := ext_size W0 x1
    by_cases hli : i < n
    · go_wp2_with fail
      go_loopw [6, 7] (fun u6 _ wr => ∃ k : Nat, i ≤ k ∧ k ≤ n ∧ u6 = .int .i64 k ∧ Hid (∀ b c : Nat, b < k → i ≤ b → b ≤ c → c < n → tB hs ⟨x, y⟩ i b c = false) ∧ ∃ u, wr = ext W0 u) (fun u6 _ _ => n - (intOf u6).toNat)
      case atStart => exact ⟨i, Nat.le_refl _, by omega, rfl, hide (fun b c h1 h2 => by omega), x1, rfl⟩
      case round =>
        obtain ⟨k, hik, hk, rfl, H2, x2, rfl⟩ := hrel
        have hz2 := ext_size W0 x2
        by_cases hlk : k < n
        · go_wp2_with fail
          go_loopw [7] (fun u7 wr => ∃ m : Nat, k ≤ m ∧ m ≤ n ∧ u7 = .int .i64 m ∧ Hid (∀ c : Nat, c < m → k ≤ c → tB hs ⟨x, y⟩ i k c = false) ∧ ∃ u, wr = ext W0 u) (fun u7 _ => n - (intOf u7).toNat)
          case atStart => exact ⟨k, Nat.le_refl _, by omega, rfl, hide (fun c h1 h2 => by omega), x2, rfl⟩
          case round =>
            obtain ⟨m, hkm, hm2, rfl, H3, x3, rfl⟩ := hrel
            have hz3 := ext_size W0 x3
            by_cases hlm : m < n
            · obtain ⟨b, o, rfl, hbl, hc⟩ := HP.out (by rw [HN.out]; omega)
              obtain ⟨p1, p2⟩ := hc i (by rw [HN.out]; omega)
              obtain ⟨p3, p4⟩ := hc k (by rw [HN.out]; omega)
              obtain ⟨p5, p6⟩ := hc m (by rw [HN.out]; omega)
              have g1 := (B0h.out.cell (p := ⟨b, o + i * 2, none⟩) hbl).trans p1
              have g2 := (B0h.out.cell (p := ⟨b, o + i * 2 + 1, none⟩) hbl).trans p2
              have g3 := (B0h.out.cell (p := ⟨b, o + k * 2, none⟩) hbl).trans p3
              have g4 := (B0h.out.cell (p := ⟨b, o + k * 2 + 1, none⟩) hbl).trans p4
              have g5 := (B0h.out.cell (p := ⟨b, o + m * 2, none⟩) hbl).trans p5
              have g6 := (B0h.out.cell (p := ⟨b, o + m * 2 + 1, none⟩) hbl).trans p6
              have lb : b < W0.heap.size := by omega
              have T := hide (fun W => TI.out i k m W hli hlk hlm)
              have HT : Hid (tB hs ⟨x, y⟩ i k m = triB ⟨(gp hs i).x, (gp hs i).y⟩ ⟨(gp hs k).x, (gp hs k).y⟩ ⟨(gp hs m).x, (gp hs m).y⟩ ⟨x, y⟩) := hide rfl
              change W0.cell? ⟨b, o + i * 2, none⟩ = some (.int .i64 (gp hs i).x) at g1
              change W0.cell? ⟨b, o + i * 2 + 1, none⟩ = some (.int .i64 (gp hs i).y) at g2
              change W0.cell? ⟨b, o + k * 2, none⟩ = some (.int .i64 (gp hs k).x) at g3
              change W0.cell? ⟨b, o + k * 2 + 1, none⟩ = some (.int .i64 (gp hs k).y) at g4
              change W0.cell? ⟨b, o + m * 2, none⟩ = some (.int .i64 (gp hs m).x) at g5
              change W0.cell? ⟨b, o + m * 2 + 1, none⟩ = some (.int .i64 (gp hs m).y) at g6
              have q1 : (0 : Int) ≤ (i : Int) := by omega
              have q2 : (i : Int) < (n : Int) := by omega
              have q3 : (0 : Int) ≤ (k : Int) := by omega
              have q4 : (k : Int) < (n : Int) := by omega
              have q5 : (0 : Int) ≤ (m : Int) := by omega
              have q6 : (m : Int) < (n : Int) := by omega
              clear hc p1 p2 p3 p4 p5 p6
              generalize (gp hs i).x = X1 at *
              generalize (gp hs i).y = Y1 at *
              generalize (gp hs k).x = X2 at *
              generalize (gp hs k).y = Y2 at *
              generalize (gp hs m).x = X3 at *
              generalize (gp hs m).y = Y3 at *
              by_cases ht : tB hs ⟨x, y⟩ i k m = true
              · have HY := hide (WLF.out i k m hik hkm hlm ht (fun a b c h1 h2 h3 h4 => by
                  rcases h4 with h4 | ⟨rfl, h4 | ⟨rfl, h4⟩⟩
                  · exact H1.out a b c h4 h1 h2 h3
                  · exact H2.out b c h4 h1 h2 h3
                  · exact H3.out c h4 h2))
                rw [HT.out] at ht
                rw [ht] at T
                clear ht HT
                go_wp2_with fail
                refine wp_region_ext (by kernel_rfl) (by kernel_rfl) ?_
                repeat (go_big_quiet_step ((first | (go_at_call 87; exact Calls.in_ext (T.out _)))))
                refine wpQuiet_nil ?_
                rintro _ hnq
                have hzq := ext_sz hnq
                obtain ⟨nq, rfl⟩ := hnq
                (try simp at hzq)
                go_wp2_with fail
                go_ret
                exact ⟨_, _, rfl, HY.out, (Own.lit3 _ _ _ _).base (by omega), ext_mk (B0h.out.trans (by (repeat' (first | (with_reducible exact Below.refl _ _) | (with_reducible assumption) | (with_reducible refine below_ext _ ?_ ?_) | (with_reducible refine Below.alloc ?_ ?_ _) | (with_reducible refine Below.drew ?_) | (with_reducible refine below_drewN ?_ _) | (with_reducible refine le_drewN _ ?_) | (with_reducible refine Below.setCell ?_ ?_ _) | (with_reducible exact Nat.le_refl _) | (with_reducible refine le_ext _ ?_) | (with_reducible refine le_alloc _ ?_) | (with_reducible refine le_setCell _ _ ?_) | (with_reducible refine le_drew ?_) | omega | (simp; done) | (simp; omega)))))⟩
              · have ht := eq_false_of_ne_true ht
                have HY := hide ht
                rw [HT.out] at ht
                rw [ht] at T
                clear ht HT
                go_wp2_with fail
                refine wp_region_ext (by kernel_rfl) (by kernel_rfl) ?_
                repeat (go_big_quiet_step ((first | (go_at_call 87; exact Calls.in_ext (T.out _)))))
                refine wpQuiet_nil ?_
                rintro _ hnq
                have hzq := ext_sz hnq
                obtain ⟨nq, rfl⟩ := hnq
                (try simp at hzq)
                go_wp2_with fail
                exact ⟨⟨m + 1, by omega, by omega, by go_num, hide (fun c h1 h2 => by
                  by_cases e : c = m
                  · rw [e]; exact HY.out
                  · exact H3.out c (by omega) h2), (ext_mk (by (repeat' (first | (with_reducible exact Below.refl _ _) | (with_reducible assumption) | (with_reducible refine below_ext _ ?_ ?_) | (with_reducible refine Below.alloc ?_ ?_ _) | (with_reducible refine Below.drew ?_) | (with_reducible refine below_drewN ?_ _) | (with_reducible refine le_drewN _ ?_) | (with_reducible refine Below.setCell ?_ ?_ _) | (with_reducible exact Nat.le_refl _) | (with_reducible refine le_ext _ ?_) | (with_reducible refine le_alloc _ ?_) | (with_reducible refine le_setCell _ _ ?_) | (with_reducible refine le_drew ?_) | omega | (simp; done) | (simp; omega)))))⟩, by simp [intOf]; omega⟩
            · have em : m = n := by omega
              have H3n : Hid (∀ c : Nat, c < n → k ≤ c → tB hs ⟨x, y⟩ i k c = false) := hide (fun c h1 h2 => H3.out c (by omega) h2)
              clear H3
              subst em
              go_wp2_with fail
              exact ⟨⟨k + 1, by omega, by omega, by go_num, hide (fun b c h1 h2 h3 h4 => by
                by_cases e : b = k
                · rw [e] at h3 ⊢; exact H3n.out c h4 h3
                · exact H2.out b c (by omega) h2 h3 h4), (ext_mk (by (repeat' (first | (with_reducible exact Below.refl _ _) | (with_reducible assumption) | (with_reducible refine below_ext _ ?_ ?_) | (with_reducible refine Below.alloc ?_ ?_ _) | (with_reducible refine Below.drew ?_) | (with_reducible refine below_drewN ?_ _) | (with_reducible refine le_drewN _ ?_) | (with_reducible refine Below.setCell ?_ ?_ _) | (with_reducible exact Nat.le_refl _) | (with_reducible refine le_ext _ ?_) | (with_reducible refine le_alloc _ ?_) | (with_reducible refine le_setCell _ _ ?_) | (with_reducible refine le_drew ?_) | omega | (simp; done) | (simp; omega)))))⟩, by simp [intOf]; omega⟩
        · have ek : k = n := by omega
          have H2n : Hid (∀ b c : Nat, b < n → i ≤ b → b ≤ c → c < n → tB hs ⟨x, y⟩ i b c = false) := hide (fun b c h1 h2 h3 h4 => H2.out b c (by omega) h2 h3 h4)
          clear H2
          subst ek
          go_wp2_with fail
          exact ⟨⟨i + 1, by omega, by go_num, hide (fun a b c h1 h2 h3 h4 => by
            by_cases e : a = i
            · rw [e] at h2 ⊢; exact H2n.out b c (by omega) h2 h3 h4
            · exact H1.out a b c (by omega) h2 h3 h4), (ext_mk (by (repeat' (first | (with_reducible exact Below.refl _ _) | (with_reducible assumption) | (with_reducible refine below_ext _ ?_ ?_) | (with_reducible refine Below.alloc ?_ ?_ _) | (with_reducible refine Below.drew ?_) | (with_reducible refine below_drewN ?_ _) | (with_reducible refine le_drewN _ ?_) | (with_reducible refine Below.setCell ?_ ?_ _) | (with_reducible exact Nat.le_refl _) | (with_reducible refine le_ext _ ?_) | (with_reducible refine le_alloc _ ?_) | (with_reducible refine le_setCell _ _ ?_) | (with_reducible refine le_drew ?_) | omega | (simp; done) | (simp; omega)))))⟩, by simp [intOf]; omega⟩
    · have ei : i = n := by omega
      have HY := hide (WLN.out (fun a b c h1 h2 h3 => H1.out a b c (by omega) h1 h2 h3))
      clear H1
      subst ei
      go_wp2_with fail
      go_ret
      exact ⟨_, _, rfl, HY.out, (Own.lit0 _).base (by omega), ext_mk (B0h.out.trans (by (repeat' (first | (with_reducible exact Below.refl _ _) | (with_reducible assumption) | (with_reducible refine below_ext _ ?_ ?_) | (with_reducible refine Below.alloc ?_ ?_ _) | (with_reducible refine Below.drew ?_) | (with_reducible refine below_drewN ?_ _) | (with_reducible refine le_drewN _ ?_) | (with_reducible refine Below.setCell ?_ ?_ _) | (with_reducible exact Nat.le_refl _) | (with_reducible refine le_ext _ ?_) | (with_reducible refine le_alloc _ ?_) | (with_reducible refine le_setCell _ _ ?_) | (with_reducible refine le_drew ?_) | omega | (simp; done) | (simp; omega)))))⟩
end Go.Proofs.Ytelhidonhldjeaa
