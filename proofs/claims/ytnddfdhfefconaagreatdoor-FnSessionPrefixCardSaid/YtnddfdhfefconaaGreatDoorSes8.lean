
/- The spanning tree of the reference. -/
/- The length of a tree, of the reference; its answer to 'tree'. -/
/- Sessions: the program and the reference print the same, whatever the lines. -/
import Derived.Test.YtnddfdhfefconaaGreatDoorTrq
import Derived.Deep.DeepCutAuto
set_option linter.unusedVariables false
set_option linter.unusedSimpArgs false
namespace Go.Proofs.YtnddfdhfefconaaGreatDoor
open Go.RowKit

theorem mrgS_pq (c : Nat → Nat) (a b i : Nat) : mrgS c (pq a b) i = if c i = c b then c a else c i := rfl
set_option maxRecDepth 20000 in
set_option maxHeartbeats 16000000 in
theorem sSpan_any (ps : List Pt) (A : Option Addr) (n c : Nat) (w : World) (hn : ps.length = n) (h0 : 0 < n) (hok : listOk ps = true) (hs : PtsAt w w.heap.size A ps) :
    Calls Tryz.prog 67 #[.slice A n c] w fun e w' => ∃ A' m c', e = .returned (.slice A' m c') ∧ (treL ps).length = m ∧ PtsAt w' w'.heap.size A' (treL ps) ∧ ∃ x, w' = ext w x := by
  obtain ⟨h1, h2⟩ := listOk_1 hok
  have h20 : n ≤ 20 := by omega
  have h3 : ∀ p ∈ ps, (-1000 ≤ p.x ∧ p.x ≤ 1000) ∧ -1000 ≤ p.y ∧ p.y ≤ 1000 := fun p hp => ok_bd (h2 p hp)
  have HS := hide hs
  have HN := hide hn
  have NXT := hide zI_rng
  have BD := hide (fun i (hi : i < n) => (show (-100000 ≤ (pX ps i) ∧ (pX ps i) ≤ 100000) ∧ -100000 ≤ (pY ps i) ∧ (pY ps i) ≤ 100000 from by
    have := h3 _ (gp_mem (show i < ps.length by omega))
    unfold pX pY; omega))
  have LE := hide (fun (a b c d : Int) W ha hb hc hd => slen_any a b c d W ha hb hc hd)
  have LB := hide (fun i k (hi : i < n) (hk : k < n) => lenE_bd h3 (i := i) (k := k) (by omega) (by omega))
  have SL := srtE_ok ps
  rw [hn] at SL
  have RS := hide (RefT.start n (srtE ps))
  have RL := hide (fun es f (h : RefT n (srtE ps) es f) => h.len h0)
  have RF := hide (fun es f (h : RefT n (srtE ps) es f) hh => h.stop SL.lt hh)
  have RB := hide (fun es f X Y (h : RefT n (srtE ps) es f) h1 h2 => h.best (A := X) (B := Y) SL h1 h2)
  have TR : Hid (treL ps = krS id (srtE ps)) := hide rfl
  clear hn hok hs h1 h2 h3 SL
  generalize srtE ps = L at *
  go_enter Tryz.func67, Tryz.ntmps67
  go_wp2_with fail
  have E1 : Hid (OwnR (w.alloc (.cells #[] 120)) w.heap.size (.slice (some ⟨w.heap.size, 0, none⟩) 0 0) []) := hide (OwnR.empty w w.heap.size 0 (Nat.le_refl _) #[] rfl (by simp [maxLen]))
  have E2 := hide (Own.empty (w.alloc (.cells #[] 120)) (w.heap.size + 1) (by simp))
  simp at E2
  have B2 : Below w.heap.size w ((w.alloc (.cells #[] 120)).alloc (.cells #[] 3)) := (by (repeat' (first | (with_reducible first | exact Below.refl _ _ | assumption | refine below_ext _ ?_ ?_ | refine Below.alloc ?_ ?_ _ | refine Below.drew ?_ | refine below_drewN ?_ _ | refine le_drewN _ ?_ | refine Below.setCell ?_ ?_ _ | exact Nat.le_refl _ | refine le_ext _ ?_ | refine le_alloc _ ?_ | refine le_setCell _ _ ?_ | refine le_drew ?_) | omega | (simp; done) | (simp; omega))))
  have BE : Below (w.heap.size + 1) (w.alloc (.cells #[] 120)) ((w.alloc (.cells #[] 120)).alloc (.cells #[] 3)) := (Below.refl _ _).alloc (by simp) _
  go_loopw [4, 5] (fun u4 u5 wr => ∃ i : Nat, i ≤ n ∧ u5 = .int .i64 i ∧ Hid (Own wr (w.heap.size + 1) u4 (zI (List.range i))) ∧ Below (w.heap.size + 1) (w.alloc (.cells #[] 120)) wr) (fun _ u5 _ => n - (intOf u5).toNat)
  case atStart => exact ⟨0, Nat.zero_le _, rfl, E2, BE⟩
  case round =>
    obtain ⟨i, hi, rfl, HO, hbel⟩ := hrel
    obtain ⟨A3, n3, c3, rfl⟩ := own_slice HO.out
    have hsz := hbel.size
    simp at hsz
    by_cases hlt : i < n
    · have NX := hide (NXT.out i)
      have lz : (zI (List.range i)).length ≤ 2000000 := by rw [zI_len, List.length_range]; omega
      clear NXT RS RL RF RB E1 E2 B2 BE
      go_wp2_with (at_builtin; refine app_one rfl _ _ rfl (w.heap.size + 1) (.slice A3 n3 c3) _ rfl (HO.out.below (by (repeat' (first | (with_reducible first | exact Below.refl _ _ | assumption | refine below_ext _ ?_ ?_ | refine Below.alloc ?_ ?_ _ | refine Below.drew ?_ | refine below_drewN ?_ _ | refine le_drewN _ ?_ | refine Below.setCell ?_ ?_ _ | exact Nat.le_refl _ | refine le_ext _ ?_ | refine le_alloc _ ?_ | refine le_setCell _ _ ?_ | refine le_drew ?_) | omega | (simp; done) | (simp; omega))))) (i : Int) _ _ rfl (by simp [go_sem]) lz (by simp; omega) ?_; intro v7 w7 hown7 hb7 hat7 hgr7; have O7 := hide hown7; have B7 := hide (Below.trans (Below.trans hbel (by (repeat' (first | (with_reducible first | exact Below.refl _ _ | assumption | refine below_ext _ ?_ ?_ | refine Below.alloc ?_ ?_ _ | refine Below.drew ?_ | refine below_drewN ?_ _ | refine le_drewN _ ?_ | refine Below.setCell ?_ ?_ _ | exact Nat.le_refl _ | refine le_ext _ ?_ | refine le_alloc _ ?_ | refine le_setCell _ _ ?_ | refine le_drew ?_) | omega | (simp; done) | (simp; omega))))) hb7); clear hown7 hb7 hat7 hgr7)
      exact ⟨⟨i + 1, hlt, by go_num, hide (by rw [NX.out]; exact O7.out), B7.out⟩, by simp [intOf]; omega⟩
    · have ei : i = n := by omega
      have HI : Hid (Own wr (w.heap.size + 1) (.slice A3 n3 c3) (zI (List.range n))) := hide (by rw [← ei]; exact HO.out)
      obtain ⟨gg, cg, hv, hfo⟩ := FoR.of_own HI.out h0
      injection hv with hv1 hv2 hv3
      subst hv1 hv2 hv3
      have lfo := hfo.lt
      have FO := hide hfo
      have OE := hide (E1.out.below (show Below (w.alloc (.cells #[] 120)).heap.size _ wr from hbel.mono (by simp)))
      have BW : Hid (Below w.heap.size w wr) := hide ((show Below w.heap.size w (w.alloc (.cells #[] 120)) from (by (repeat' (first | (with_reducible first | exact Below.refl _ _ | assumption | refine below_ext _ ?_ ?_ | refine Below.alloc ?_ ?_ _ | refine Below.drew ?_ | refine below_drewN ?_ _ | refine le_drewN _ ?_ | refine Below.setCell ?_ ?_ _ | exact Nat.le_refl _ | refine le_ext _ ?_ | refine le_alloc _ ?_ | refine le_setCell _ _ ?_ | refine le_drew ?_) | omega | (simp; done) | (simp; omega))))).trans (hbel.mono (Nat.le_succ _)))
      have OF0 : Hid (∀ k, (Value.slice (some ⟨w.heap.size, 0, none⟩) 0 0).ownBlock = some k → k ≠ gg) := hide (fun k hk => by
        have : k = w.heap.size := (Option.some.inj hk).symm
        omega)
      clear ei HI HO hfo E1 E2 B2 BE hbel NXT
      obtain ⟨w1, hw1⟩ : ∃ w1, w1 = wr := ⟨_, rfl⟩
      subst hw1
      go_wp2_with fail
      go_loopw [3] (fun u3 wr => ∃ (es : List Pt) (f : Nat → Nat), Hid (OwnR wr w.heap.size u3 es) ∧ Hid (FoR wr (w.heap.size + 1) gg n3 c3 f) ∧ Hid (RefT n3 L es f) ∧ Hid (Below w.heap.size w wr) ∧ w1.heap.size ≤ wr.heap.size ∧ Hid (∀ k, u3.ownBlock = some k → k ≠ gg)) (fun u3 _ => n3 - lenV u3)
      case atStart => exact ⟨[], id, OE, FO, RS, BW, Nat.le_refl _, OF0⟩
      case round =>
        clear OE FO RS BW OF0
        obtain ⟨es, f, HO, HF, HR, HB, z1, OFF⟩ := hrel
        obtain ⟨A0, m0, c0, rfl⟩ := HO.out.slice
        have hm0 := HO.out.pts.1
        by_cases hlt : m0 + 1 < n3
        · have OFFw := hide OFF.out
          have BBX := hide (heap_alloc_new wr (.cells #[.int .i64 (-1), .int .i64 0] 120))
          have BA : Below wr.heap.size wr (wr.alloc (.cells #[.int .i64 (-1), .int .i64 0] 120)) := (Below.refl _ _).alloc (Nat.le_refl _) _
          have BS0 := hide (BsT.start (lenE ps) f n3)
          have lgr : gg < wr.heap.size := HF.out.lt.2
          have BROW := hide (fun i X Y (h : BsT (lenE ps) f n3 i n3 X Y) => h.row)
          have BNO := hide (fun i k X Y (h : BsT (lenE ps) f n3 i k X Y) he => h.no he)
          have BYES := hide (fun i k X Y (h : BsT (lenE ps) f n3 i k X Y) h1 h2 h3 he => h.yes h1 h2 h3 he)
          have RBk := hide (fun X Y h2 => RB.out es f X Y HR.out (by rw [hm0]; exact hlt) h2)
          clear RF RB RL TR HR OFF
          obtain ⟨w0, hw0⟩ : ∃ w0, w0 = wr := ⟨_, rfl⟩
          subst hw0
          go_wp2_with fail
          go_loopw [7] (fun u7 wr => ∃ (i : Nat) (X Y : Int), i ≤ n3 ∧ u7 = .int .i64 i ∧ Hid (BsT (lenE ps) f n3 i (i + 1) X Y) ∧ Hid (wr.heap[w0.heap.size]? = some (.cells #[.int .i64 X, .int .i64 Y] 120 (0, 0))) ∧ Below w0.heap.size w0 wr) (fun u7 _ => n3 - (intOf u7).toNat)
          case atStart => exact ⟨0, -1, 0, Nat.zero_le _, rfl, BS0, BBX, BA⟩
          case round =>
            clear BS0 BBX BA
            obtain ⟨i, X, Y, hi, rfl, HBS, HBB, hbel⟩ := hrel
            by_cases hlti : i < n3
            · go_wp2_with fail
              obtain ⟨w00, hw00⟩ : ∃ w00, w00 = wr := ⟨_, rfl⟩
              subst hw00
              go_loopw [8] (fun u8 wr => ∃ (k : Nat) (X Y : Int), i + 1 ≤ k ∧ k ≤ n3 ∧ u8 = .int .i64 k ∧ Hid (BsT (lenE ps) f n3 i k X Y) ∧ Hid (wr.heap[w0.heap.size]? = some (.cells #[.int .i64 X, .int .i64 Y] 120 (0, 0))) ∧ Below w0.heap.size w0 wr) (fun u8 _ => n3 - (intOf u8).toNat)
              case atStart => exact ⟨i + 1, X, Y, Nat.le_refl _, hlti, by go_num, HBS, HBB, hbel⟩
              case round =>
                clear HBS HBB hbel
                obtain ⟨k, X, Y, hk1, hk2, rfl, HBS, HBB, hbel⟩ := hrel
                by_cases hltk : k < n3
                · have zb := hbel.size
                  have lbb := heap_lt HBB.out
                  have bx := heap_cell HBB.out 0
                  have byy := heap_cell HBB.out 1
                  have fbx := heap_frozen HBB.out 0
                  have fby := heap_frozen HBB.out 1
                  simp at bx byy
                  have hgb := hbel.block gg lgr
                  have gi1 := (World.cell?_of_block hgb (a := ⟨gg, i, none⟩)).trans (HF.out.cell hlti).1
                  have gk1 := (World.cell?_of_block hgb (a := ⟨gg, k, none⟩)).trans (HF.out.cell hltk).1
                  obtain ⟨b, o, rfl, hb, hcs⟩ := HS.out (by rw [HN.out]; omega)
                  have hbl : b < w0.heap.size := by have := HB.out.size; omega
                  have CS : ∀ j, j < n3 → wr.cell? ⟨b, o + j * 2, none⟩ = some (.int .i64 (pX ps j)) ∧ wr.cell? ⟨b, o + j * 2 + 1, none⟩ = some (.int .i64 (pY ps j)) := fun j hj => by
                    have h := hcs j (by rw [HN.out]; omega)
                    have h1 := (hbel.block b hbl).trans (HB.out.block b hb)
                    exact ⟨(World.cell?_of_block h1).trans h.1, (World.cell?_of_block h1).trans h.2⟩
                  obtain ⟨ix, iy⟩ := CS i hlti
                  obtain ⟨kx, ky⟩ := CS k hltk
                  obtain ⟨⟨b11, b12⟩, b13, b14⟩ := BD.out i hlti
                  obtain ⟨⟨b21, b22⟩, b23, b24⟩ := BD.out k hltk
                  have q1 : (i : Int) < (n3 : Int) := by omega
                  have q2 : (k : Int) < (n3 : Int) := by omega
                  have q3 : (0 : Int) ≤ (i : Int) := by omega
                  have q4 : (0 : Int) ≤ (k : Int) := by omega
                  have PUT := hide (fun (W : World) (hW : Below wr.heap.size wr W) => (show W.heap[w0.heap.size]? = some (.cells #[.int .i64 X, .int .i64 Y] 120 (0, 0)) from (hW.block _ lbb).trans HBB.out))
                  by_cases hc : f i = f k
                  · have HN2 := hide (BNO.out i k X Y HBS.out (.inl hc))
                    have gn : (((f i : Nat) : Int) != ((f k : Nat) : Int)) = false := by rw [hc]; simp
                    clear BNO BYES BROW hcs CS RBk HBS hc hgb
                    generalize f i = F1 at *
                    generalize f k = F2 at *
                    go_wp2_with fail
                    refine wp_region_ext (by kernel_rfl) (by kernel_rfl) ?_
                    repeat (go_big_quiet_step (fail))
                    refine wpQuiet_nil ?_
                    rintro _ hnq
                    have hzq := ext_sz hnq
                    obtain ⟨nq, rfl⟩ := hnq
                    (try simp at hzq)
                    go_wp2_with fail
                    exact ⟨⟨k + 1, X, Y, by omega, hltk, by go_num, HN2, hide (PUT.out _ (by (repeat' (first | (with_reducible first | exact Below.refl _ _ | assumption | refine below_ext _ ?_ ?_ | refine Below.alloc ?_ ?_ _ | refine Below.drew ?_ | refine below_drewN ?_ _ | refine le_drewN _ ?_ | refine Below.setCell ?_ ?_ _ | exact Nat.le_refl _ | refine le_ext _ ?_ | refine le_alloc _ ?_ | refine le_setCell _ _ ?_ | refine le_drew ?_) | omega | (simp; done) | (simp; omega))))), Below.trans hbel (by (repeat' (first | (with_reducible first | exact Below.refl _ _ | assumption | refine below_ext _ ?_ ?_ | refine Below.alloc ?_ ?_ _ | refine Below.drew ?_ | refine below_drewN ?_ _ | refine le_drewN _ ?_ | refine Below.setCell ?_ ?_ _ | exact Nat.le_refl _ | refine le_ext _ ?_ | refine le_alloc _ ?_ | refine le_setCell _ _ ?_ | refine le_drew ?_) | omega | (simp; done) | (simp; omega))))⟩, by simp [intOf]; omega⟩
                  · have gn : (((f i : Nat) : Int) != ((f k : Nat) : Int)) = true := by rw [bne_iff_ne]; omega
                    have SET := hide (fun (W : World) (hW : Below wr.heap.size wr W) => (show ((W.setCell ⟨w0.heap.size, 0, none⟩ (.int .i64 (i : Int))).setCell ⟨w0.heap.size, 1, none⟩ (.int .i64 (k : Int))).heap[w0.heap.size]? = some (.cells #[.int .i64 (i : Int), .int .i64 (k : Int)] 120 (0, 0)) from box_set2 (PUT.out W hW) _ _))
                    have LEN : Hid (lenE ps (pq i k) = absI (pX ps i - pX ps k) + absI (pY ps i - pY ps k)) := hide rfl
                    have BY := hide (fun he => BYES.out i k X Y HBS.out (by omega) hltk hc he)
                    have BN := hide (fun he => BNO.out i k X Y HBS.out (.inr he))
                    rcases HBS.out with ⟨hX, hY, _⟩ | ⟨a, b', hX, hY, hab, hbn, _⟩
                    · subst hX hY
                      have HN2 := hide (BY.out (.inl (by omega)))
                      clear BNO BYES BROW hcs CS RBk HBS hc hgb BY BN LEN
                      generalize f i = F1 at *
                      generalize f k = F2 at *
                      go_wp2_with fail
                      refine wp_region_ext (by kernel_rfl) (by kernel_rfl) ?_
                      repeat (go_big_quiet_step (fail))
                      refine wpQuiet_nil ?_
                      rintro _ hnq
                      have hzq := ext_sz hnq
                      obtain ⟨nq, rfl⟩ := hnq
                      (try simp at hzq)
                      go_wp2_with fail
                      exact ⟨⟨k + 1, _, _, by omega, hltk, by go_num, HN2, hide (SET.out _ (by (repeat' (first | (with_reducible first | exact Below.refl _ _ | assumption | refine below_ext _ ?_ ?_ | refine Below.alloc ?_ ?_ _ | refine Below.drew ?_ | refine below_drewN ?_ _ | refine le_drewN _ ?_ | refine Below.setCell ?_ ?_ _ | exact Nat.le_refl _ | refine le_ext _ ?_ | refine le_alloc _ ?_ | refine le_setCell _ _ ?_ | refine le_drew ?_) | omega | (simp; done) | (simp; omega))))), Below.setCell (Below.setCell (Below.trans hbel (by (repeat' (first | (with_reducible first | exact Below.refl _ _ | assumption | refine below_ext _ ?_ ?_ | refine Below.alloc ?_ ?_ _ | refine Below.drew ?_ | refine below_drewN ?_ _ | refine le_drewN _ ?_ | refine Below.setCell ?_ ?_ _ | exact Nat.le_refl _ | refine le_ext _ ?_ | refine le_alloc _ ?_ | refine le_setCell _ _ ?_ | refine le_drew ?_) | omega | (simp; done) | (simp; omega))))) (Nat.le_refl _) _) (Nat.le_refl _) _⟩, by simp [intOf]; omega⟩
                    · subst hX hY
                      have han : a < n3 := by omega
                      obtain ⟨ax, ay⟩ := CS a han
                      obtain ⟨bx', by'⟩ := CS b' hbn
                      obtain ⟨⟨b31, b32⟩, b33, b34⟩ := BD.out a han
                      obtain ⟨⟨b41, b42⟩, b43, b44⟩ := BD.out b' hbn
                      have q5 : (a : Int) < (n3 : Int) := by omega
                      have q6 : (b' : Int) < (n3 : Int) := by omega
                      have q7 : (0 : Int) ≤ (a : Int) := by omega
                      have q8 : (0 : Int) ≤ (b' : Int) := by omega
                      have na : decide ((a : Int) < 0) = false := decide_eq_false (by omega)
                      have LB1 := LB.out i k hlti hltk
                      have LB2 := LB.out a b' han hbn
                      rw [lenE_pq] at LB1 LB2
                      have e3 : ((a : Nat) : Int).toNat = a := rfl
                      have e4 : ((b' : Nat) : Int).toNat = b' := rfl
                      rw [e3, e4, lenE_pq, lenE_pq] at BY BN
                      clear e3 e4
                      by_cases hcmp : absI (pX ps i - pX ps k) + absI (pY ps i - pY ps k) < absI (pX ps a - pX ps b') + absI (pY ps a - pY ps b')
                      · have HN2 := hide (BY.out (.inr hcmp))
                        have dc := decide_eq_true hcmp
                        clear BNO BYES BROW hcs CS RBk HBS hc hgb BY BN LEN LB
                        generalize f i = F1 at *
                        generalize f k = F2 at *
                        generalize pX ps i = X1 at *
                        generalize pY ps i = Y1 at *
                        generalize pX ps k = X2 at *
                        generalize pY ps k = Y2 at *
                        generalize pX ps a = X3 at *
                        generalize pY ps a = Y3 at *
                        generalize pX ps b' = X4 at *
                        generalize pY ps b' = Y4 at *
                        go_wp2_with fail
                        refine wp_region_ext (by kernel_rfl) (by kernel_rfl) ?_
                        repeat (go_big_quiet_step ((first | (go_at_call 115; exact Calls.in_ext (LE.out _ _ _ _ _ (by omega) (by omega) (by omega) (by omega))))))
                        refine wpQuiet_nil ?_
                        rintro _ hnq
                        have hzq := ext_sz hnq
                        obtain ⟨nq, rfl⟩ := hnq
                        (try simp at hzq)
                        go_wp2_with fail
                        exact ⟨⟨k + 1, _, _, by omega, hltk, by go_num, HN2, hide (SET.out _ (by (repeat' (first | (with_reducible first | exact Below.refl _ _ | assumption | refine below_ext _ ?_ ?_ | refine Below.alloc ?_ ?_ _ | refine Below.drew ?_ | refine below_drewN ?_ _ | refine le_drewN _ ?_ | refine Below.setCell ?_ ?_ _ | exact Nat.le_refl _ | refine le_ext _ ?_ | refine le_alloc _ ?_ | refine le_setCell _ _ ?_ | refine le_drew ?_) | omega | (simp; done) | (simp; omega))))), Below.setCell (Below.setCell (Below.trans hbel (by (repeat' (first | (with_reducible first | exact Below.refl _ _ | assumption | refine below_ext _ ?_ ?_ | refine Below.alloc ?_ ?_ _ | refine Below.drew ?_ | refine below_drewN ?_ _ | refine le_drewN _ ?_ | refine Below.setCell ?_ ?_ _ | exact Nat.le_refl _ | refine le_ext _ ?_ | refine le_alloc _ ?_ | refine le_setCell _ _ ?_ | refine le_drew ?_) | omega | (simp; done) | (simp; omega))))) (Nat.le_refl _) _) (Nat.le_refl _) _⟩, by simp [intOf]; omega⟩
                      · have HN2 := hide (BN.out ⟨q7, Int.not_lt.1 hcmp⟩)
                        have dc := decide_eq_false hcmp
                        clear BNO BYES BROW hcs CS RBk HBS hc hgb BY BN LEN LB
                        generalize f i = F1 at *
                        generalize f k = F2 at *
                        generalize pX ps i = X1 at *
                        generalize pY ps i = Y1 at *
                        generalize pX ps k = X2 at *
                        generalize pY ps k = Y2 at *
                        generalize pX ps a = X3 at *
                        generalize pY ps a = Y3 at *
                        generalize pX ps b' = X4 at *
                        generalize pY ps b' = Y4 at *
                        go_wp2_with fail
                        refine wp_region_ext (by kernel_rfl) (by kernel_rfl) ?_
                        repeat (go_big_quiet_step ((first | (go_at_call 115; exact Calls.in_ext (LE.out _ _ _ _ _ (by omega) (by omega) (by omega) (by omega))))))
                        refine wpQuiet_nil ?_
                        rintro _ hnq
                        have hzq := ext_sz hnq
                        obtain ⟨nq, rfl⟩ := hnq
                        (try simp at hzq)
                        go_wp2_with fail
                        exact ⟨⟨k + 1, _, _, by omega, hltk, by go_num, HN2, hide (PUT.out _ (by (repeat' (first | (with_reducible first | exact Below.refl _ _ | assumption | refine below_ext _ ?_ ?_ | refine Below.alloc ?_ ?_ _ | refine Below.drew ?_ | refine below_drewN ?_ _ | refine le_drewN _ ?_ | refine Below.setCell ?_ ?_ _ | exact Nat.le_refl _ | refine le_ext _ ?_ | refine le_alloc _ ?_ | refine le_setCell _ _ ?_ | refine le_drew ?_) | omega | (simp; done) | (simp; omega))))), Below.trans hbel (by (repeat' (first | (with_reducible first | exact Below.refl _ _ | assumption | refine below_ext _ ?_ ?_ | refine Below.alloc ?_ ?_ _ | refine Below.drew ?_ | refine below_drewN ?_ _ | refine le_drewN _ ?_ | refine Below.setCell ?_ ?_ _ | exact Nat.le_refl _ | refine le_ext _ ?_ | refine le_alloc _ ?_ | refine le_setCell _ _ ?_ | refine le_drew ?_) | omega | (simp; done) | (simp; omega))))⟩, by simp [intOf]; omega⟩
                · have ek : k = n3 := by omega
                  have HR2 := hide (BROW.out i X Y (by have := HBS.out; rwa [ek] at this))
                  clear ek HBS BNO BYES BROW RBk
                  go_wp2_with fail
                  exact ⟨⟨i + 1, X, Y, hlti, by go_num, HR2, HBB, hbel⟩, by simp [intOf]; omega⟩
            · have ei : i = n3 := by omega
              obtain ⟨a, b', hX, hY, hab, hbn, hne, hRT⟩ := RBk.out X Y (by have := HBS.out; rwa [ei] at this)
              subst hX hY
              have HRT := hide hRT
              have han : a < n3 := by omega
              have zb := hbel.size
              have lbb := heap_lt HBB.out
              have bx := heap_cell HBB.out 0
              have byy := heap_cell HBB.out 1
              simp at bx byy
              have OO := hide (HO.out.below hbel)
              have lz : es.length ≤ 2000000 := by omega
              have HG := hide (HF.out.below hbel)
              have MG := hide (fun i => mrgS_pq f a b' i)
              have ES : Hid (es ++ [⟨(a : Int), (b' : Int)⟩] = es ++ [pq a b']) := hide rfl
              have HB2 := hide (HB.out.trans (hbel.mono HB.out.size))
              have OW0 := hide HO.out.lt2
              have Z1 := hide z1
              have LB7 := hide HBB.out
              have qb1 : (0 : Int) ≤ (b' : Int) := by omega
              have qb2 : (b' : Int) < (n3 : Int) := by omega
              clear hRT RBk HBS HF HO BNO BYES BROW LB LE BD HB
              go_wp2_with (at_builtin; refine app_pr rfl _ _ rfl w.heap.size (.slice A0 m0 c0) es rfl (OO.out.below (by (repeat' (first | (with_reducible first | exact Below.refl _ _ | assumption | refine below_ext _ ?_ ?_ | refine Below.alloc ?_ ?_ _ | refine Below.drew ?_ | refine below_drewN ?_ _ | refine le_drewN _ ?_ | refine Below.setCell ?_ ?_ _ | exact Nat.le_refl _ | refine le_ext _ ?_ | refine le_alloc _ ?_ | refine le_setCell _ _ ?_ | refine le_drew ?_) | omega | (simp; done) | (simp; omega))))) (a : Int) (b' : Int) _ _ rfl (by simp [go_sem]) (by simp [go_sem]) lz (by simp; have := HB2.out.size; omega) ?_; intro v7 w7 hown7 hb7 hat7 hgr7; obtain ⟨A7, n7, c7, rfl⟩ := hown7.slice; have k7 : ∀ k, k < wr.heap.size → (∀ j, (Value.slice A0 m0 c0).ownBlock = some j → j ≠ k) → w7.heap[k]? = wr.heap[k]? := fun k hk hne => (hgr7.block k (by simp; omega) (fun e => hne k e.symm rfl)).trans (Below.heap_alloc wr _ k hk); have BB7 := hide ((k7 _ lbb (fun j hj => by have := OW0.out j hj; omega)).trans LB7.out); have HG7 := hide (HG.out.block (k7 gg (by omega) (fun j hj => OFFw.out j hj))); have bx7 := heap_cell BB7.out 0; have by7 := heap_cell BB7.out 1; simp at bx7 by7; have cgb := (HG7.out.cell hbn).1; have O7 := hide hown7; have AT7 := hide hat7; have B7 : Hid (Below w.heap.size w w7) := hide (HB2.out.trans (((Below.refl wr.heap.size wr).alloc (Nat.le_refl _) _).mono HB2.out.size |>.trans hb7)); have z7 := hgr7.size; simp at z7; clear hown7 hat7 hgr7 hb7 k7)
              have OX : Hid (OwnR w7 w.heap.size (.slice A7 n7 c7) (es ++ [pq a b'])) := hide (by rw [← ES.out]; exact O7.out)
              have OFX : Hid (∀ k, (Value.slice A7 n7 c7).ownBlock = some k → k ≠ gg) := hide (fun k hk => by
                rcases AT7.out with e | e
                · exact OFFw.out k (e ▸ hk)
                · rw [e] at hk
                  injection hk with hk
                  simp at hk
                  omega)
              have n7e : n7 = m0 + 1 := by
                have := O7.out.pts.1
                rw [List.length_append, hm0] at this
                simp at this; omega
              have N7 := hide n7e
              have F0 : Hid (FoR w7 (w.heap.size + 1) gg n3 c3 (fun i => if i < 0 then mrgS f (pq a b') i else f i)) := hide (HG7.out.congr (fun i _ => by simp))
              clear n7e O7 AT7 OFFw OO HG HB2 OW0 LB7 HBB bx byy hbel cgb bx7 by7
              go_loopw [10] (fun u10 wr => ∃ t : Nat, t ≤ n3 ∧ u10 = .int .i64 t ∧ Hid (FoR wr (w.heap.size + 1) gg n3 c3 (fun i => if i < t then mrgS f (pq a b') i else f i)) ∧ Hid (OwnR wr w.heap.size (.slice A7 n7 c7) (es ++ [pq a b'])) ∧ Hid (wr.heap[w0.heap.size]? = some (.cells #[.int .i64 (a : Int), .int .i64 (b' : Int)] 120 (0, 0))) ∧ Hid (Below w.heap.size w wr) ∧ w1.heap.size ≤ wr.heap.size) (fun u10 _ => n3 - (intOf u10).toNat)
              case atStart => exact ⟨0, Nat.zero_le _, rfl, F0, OX, BB7, B7, by have := Z1.out; omega⟩
              case round =>
                clear F0 OX BB7 B7 HG7 z7 Z1
                obtain ⟨t, ht, rfl, HF, HO, HBB, HB, z5⟩ := hrel
                by_cases hltt : t < n3
                · have ct := HF.out.cell hltt
                  have ca := HF.out.cell han
                  have et : (if t < t then mrgS f (pq a b') t else f t) = f t := by rw [if_neg (Nat.lt_irrefl t)]
                  have ea : (if a < t then mrgS f (pq a b') a else f a) = f a := by
                    split
                    · rw [MG.out, if_neg hne]
                    · rfl
                  obtain ⟨ct1, ct2⟩ := ct
                  obtain ⟨ca1, ca2⟩ := ca
                  simp only [Nat.lt_irrefl, if_false] at ct1
                  rw [ea] at ca1
                  have bx := heap_cell HBB.out 0
                  simp at bx
                  have q1 : (0 : Int) ≤ (t : Int) := by omega
                  have q2 : (t : Int) < (n3 : Int) := by omega
                  have q3 : (0 : Int) ≤ (a : Int) := by omega
                  have q4 : (a : Int) < (n3 : Int) := by omega
                  have lg := HF.out.lt
                  by_cases hc : f t = f b'
                  · have gn : (((f t : Nat) : Int) == ((f b' : Nat) : Int)) = true := by rw [hc]; simp
                    have HF2 : Hid (FoR (wr.setCell ⟨gg, t, none⟩ (.int .i64 ((f a : Nat) : Int))) (w.heap.size + 1) gg n3 c3 (fun i => if i < t + 1 then mrgS f (pq a b') i else f i)) := hide ((HF.out.set hltt (f a)).congr (fun i _ => by
                      by_cases e1 : i = t
                      · rw [if_pos e1, if_pos (by omega), e1, MG.out, if_pos hc]
                      · rw [if_neg e1]
                        by_cases e2 : i < t
                        · rw [if_pos e2, if_pos (by omega)]
                        · rw [if_neg e2, if_neg (by omega)]))
                    have HO2 : Hid (OwnR (wr.setCell ⟨gg, t, none⟩ (.int .i64 ((f a : Nat) : Int))) w.heap.size (.slice A7 n7 c7) (es ++ [pq a b'])) := hide (HO.out.far (fun k hk => OFX.out k hk) _)
                    have HBB2 : Hid ((wr.setCell ⟨gg, t, none⟩ (.int .i64 ((f a : Nat) : Int))).heap[w0.heap.size]? = some (.cells #[.int .i64 (a : Int), .int .i64 (b' : Int)] 120 (0, 0))) := hide ((Below.heap_setCell wr _ _ _ (by show w0.heap.size ≠ gg; omega)).trans HBB.out)
                    have HB2 : Hid (Below w.heap.size w (wr.setCell ⟨gg, t, none⟩ (.int .i64 ((f a : Nat) : Int)))) := hide (HB.out.setCell (show w.heap.size ≤ gg by omega) _)
                    clear HF HO HBB HB hc MG et ea
                    generalize f t = F1 at *
                    generalize f b' = F2 at *
                    generalize f a = F3 at *
                    go_wp2_with fail
                    exact ⟨⟨t + 1, hltt, by go_num, HF2, HO2, HBB2, HB2, by simpa using z5⟩, by simp [intOf]; omega⟩
                  · have gn : (((f t : Nat) : Int) == ((f b' : Nat) : Int)) = false := by rw [beq_eq_false_iff_ne]; omega
                    have HF2 : Hid (FoR wr (w.heap.size + 1) gg n3 c3 (fun i => if i < t + 1 then mrgS f (pq a b') i else f i)) := hide (HF.out.congr (fun i _ => by
                      by_cases e1 : i = t
                      · rw [if_neg (by omega), if_pos (by omega), e1, MG.out, if_neg hc]
                      · by_cases e2 : i < t
                        · rw [if_pos e2, if_pos (by omega)]
                        · rw [if_neg e2, if_neg (by omega)]))
                    clear HF MG et ea hc
                    generalize f t = F1 at *
                    generalize f b' = F2 at *
                    go_wp2_with fail
                    exact ⟨⟨t + 1, hltt, by go_num, HF2, HO, HBB, HB, z5⟩, by simp [intOf]; omega⟩
                · have HF2 : Hid (FoR wr (w.heap.size + 1) gg n3 c3 (mrgS f (pq a b'))) := hide (HF.out.congr (fun i hi => if_pos (by omega)))
                  have n7e := N7.out
                  clear HF
                  go_wp2_with fail
                  exact ⟨⟨es ++ [pq a b'], mrgS f (pq a b'), HO, HF2, HRT, HB, z5, OFX⟩, by simp [lenV]; omega⟩
        · have hm1 : m0 + 1 ≤ n3 := by rw [← hm0]; exact RL.out es f HR.out
          have RE := hide (RF.out es f HR.out (by rw [hm0]; omega))
          have OX : Hid (OwnR wr w.heap.size (.slice A0 m0 c0) (treL ps)) := hide (by rw [TR.out, RE.out]; exact HO.out)
          obtain ⟨lm, lc, mc, pp⟩ := OX.out.pts
          have PP := hide pp
          have LM := hide lm
          clear HO HF HR RF RB RL RE TR lm pp hm0
          go_wp2_with fail
          go_ret
          exact ⟨A0, m0, c0, rfl, LM.out, PP.out, ext_mk HB.out⟩
end Go.Proofs.YtnddfdhfefconaaGreatDoor
namespace Go.Proofs.YtnddfdhfefconaaGreatDoor
open Go.RowKit

set_option maxRecDepth 20000 in
set_option maxHeartbeats 4000000 in
theorem sTot_any (ps es : List Pt) (A A2 : Option Addr) (n c M c2 : Nat) (w : World) (hn : ps.length = n) (hm : n ≤ 1000) (hok : listOk ps = true) (hM : es.length = M) (hM2 : M ≤ 20) (hv : ∀ e ∈ es, VPr n e) (hs : PtsAt w w.heap.size A ps) (he : PtsAt w w.heap.size A2 es) :
    Calls Tryz.prog 66 #[.slice A n c, .slice A2 M c2] w fun e w' => e = .returned (.int .i64 (totL ps es)) ∧ ∃ x, w' = ext w x := by
  obtain ⟨h1, h2⟩ := listOk_1 hok
  have h3 : ∀ p ∈ ps, (-1000 ≤ p.x ∧ p.x ≤ 1000) ∧ -1000 ≤ p.y ∧ p.y ≤ 1000 := fun p hp => ok_bd (h2 p hp)
  have VP := hide (validPoints_any ps A n c w hn (by omega) hs)
  rw [hok] at VP
  have HS := hide hs
  have HE := hide he
  have HN := hide hn
  have HM := hide hM
  have HV := hide hv
  have BD := hide (fun i (hi : i < n) => (show (-100000 ≤ (pX ps i) ∧ (pX ps i) ≤ 100000) ∧ -100000 ≤ (pY ps i) ∧ (pY ps i) ≤ 100000 from by
    have := h3 _ (gp_mem (show i < ps.length by omega))
    unfold pX pY; omega))
  have TB := hide (fun (t : Nat) => totL_bd h3 (L := es.take t) (fun e he => by rw [hn]; exact hv e (List.mem_of_mem_take he)))
  have LB := hide (fun i k (hi : i < n) (hk : k < n) => lenE_bd h3 (i := i) (k := k) (by omega) (by omega))
  have LE := hide (fun (a b c d : Int) W ha hb hc hd => slen_any a b c d W ha hb hc hd)
  have IR := hide (fun (z : Int) (W : World) (h0 : 0 ≤ z) (h1 : z < (n : Int)) => (inRange_any z 0 ((n : Int) - 1) W).mono (fun e w' h => (show e = .returned (.bool true) ∧ W = w' from ⟨by rw [h.1]; congr 2; simp [inB]; omega, h.2⟩)))
  clear hn hok hM hv hs he h1 h2 h3
  go_enter Tryz.func66, Tryz.ntmps66
  go_wp2_with fail
  refine VP.out.mono ?_
  rintro e w' ⟨rfl, hw'⟩; have hzy1 := ext_sz hw'; obtain ⟨y1, rfl⟩ := hw'; (try simp at hzy1)
  have hM20 : ¬ (20 : Int) < (M : Int) := by omega
  clear VP
  go_wp2_with fail
  go_loopw [5, 6] (fun u5 u6 wr => ∃ t : Nat, t ≤ M ∧ u6 = .int .i64 t ∧ u5 = .int .i64 (totL ps (es.take t)) ∧ ∃ x, wr = ext w x) (fun _ u6 _ => M - (intOf u6).toNat)
  case atStart => exact ⟨0, Nat.zero_le _, rfl, rfl, (ext_mk (by (repeat' (first | (with_reducible first | exact Below.refl _ _ | assumption | refine below_ext _ ?_ ?_ | refine Below.alloc ?_ ?_ _ | refine Below.drew ?_ | refine below_drewN ?_ _ | refine le_drewN _ ?_ | refine Below.setCell ?_ ?_ _ | exact Nat.le_refl _ | refine le_ext _ ?_ | refine le_alloc _ ?_ | refine le_setCell _ _ ?_ | refine le_drew ?_) | omega | (simp; done) | (simp; omega)))))⟩
  case round =>
    obtain ⟨t, ht, rfl, rfl, x, rfl⟩ := hrel
    have zx := ext_size w x
    by_cases hlt : t < M
    · obtain ⟨i, k, hi, hk, he⟩ := HV.out _ (gp_mem (show t < es.length by rw [HM.out]; exact hlt))
      obtain ⟨b1, o1, rfl, hb1, hc1⟩ := HE.out (by rw [HM.out]; omega)
      obtain ⟨cx, cy⟩ := hc1 t (by rw [HM.out]; omega)
      have e1 : pX es t = (i : Int) := by unfold pX; rw [he]; rfl
      have e2 : pY es t = (k : Int) := by unfold pY; rw [he]; rfl
      rw [e1] at cx
      rw [e2] at cy
      obtain ⟨b, o, rfl, hb, hcs⟩ := HS.out (by rw [HN.out]; omega)
      obtain ⟨ix, iy⟩ := hcs i (by rw [HN.out]; omega)
      obtain ⟨kx, ky⟩ := hcs k (by rw [HN.out]; omega)
      obtain ⟨⟨b11, b12⟩, b13, b14⟩ := BD.out i hi
      obtain ⟨⟨b21, b22⟩, b23, b24⟩ := BD.out k hk
      obtain ⟨tb1, tb2⟩ := TB.out t
      have tl : ((es.take t).length : Int) ≤ 20 := by rw [List.length_take, HM.out]; omega
      have lb := LB.out i k hi hk
      have NX : Hid (totL ps (es.take (t + 1)) = totL ps (es.take t) + (absI (pX ps i - pX ps k) + absI (pY ps i - pY ps k))) := hide (by
        have hl : t < es.length := by rw [HM.out]; exact hlt
        rw [List.take_succ_eq_append_getElem hl, totL_snoc, ← gp_lt hl, he, lenE_pq])
      rw [lenE_pq] at lb
      have q1 : (i : Int) < (n : Int) := by omega
      have q2 : (k : Int) < (n : Int) := by omega
      have q3 : (0 : Int) ≤ (i : Int) := by omega
      have q4 : (0 : Int) ≤ (k : Int) := by omega
      have q5 : (0 : Int) ≤ (t : Int) := by omega
      have q6 : (t : Int) < (M : Int) := by omega
      clear hcs hc1 he e1 e2 HV HE HS BD TB LB
      generalize totL ps (es.take t) = T at *
      generalize pX ps i = X1 at *
      generalize pY ps i = Y1 at *
      generalize pX ps k = X2 at *
      generalize pY ps k = Y2 at *
      go_wp2_with (go_at_call 81; refine (IR.out _ _ (by omega) (by omega)).mono ?_; rintro e w' ⟨rfl, rfl⟩)
      refine wp_region_ext (by kernel_rfl) (by kernel_rfl) ?_
      repeat (go_big_quiet_step ((first | (go_at_call 115; exact Calls.in_ext (LE.out _ _ _ _ _ (by omega) (by omega) (by omega) (by omega))))))
      refine wpQuiet_nil ?_
      rintro _ hnq
      have hzq := ext_sz hnq
      obtain ⟨nq, rfl⟩ := hnq
      (try simp at hzq)
      go_wp2_with fail
      exact ⟨⟨t + 1, hlt, by go_num, by rw [NX.out], (ext_mk (by (repeat' (first | (with_reducible first | exact Below.refl _ _ | assumption | refine below_ext _ ?_ ?_ | refine Below.alloc ?_ ?_ _ | refine Below.drew ?_ | refine below_drewN ?_ _ | refine le_drewN _ ?_ | refine Below.setCell ?_ ?_ _ | exact Nat.le_refl _ | refine le_ext _ ?_ | refine le_alloc _ ?_ | refine le_setCell _ _ ?_ | refine le_drew ?_) | omega | (simp; done) | (simp; omega)))))⟩, by simp [intOf]; omega⟩
    · have et : es.take t = es := List.take_of_length_le (by rw [HM.out]; omega)
      have ET : Hid (totL ps (es.take t) = totL ps es) := hide (by rw [et])
      clear et
      go_wp2_with fail
      go_ret
      exact ⟨by rw [← ET.out]; rfl, (ext_mk (by (repeat' (first | (with_reducible first | exact Below.refl _ _ | assumption | refine below_ext _ ?_ ?_ | refine Below.alloc ?_ ?_ _ | refine Below.drew ?_ | refine below_drewN ?_ _ | refine le_drewN _ ?_ | refine Below.setCell ?_ ?_ _ | exact Nat.le_refl _ | refine le_ext _ ?_ | refine le_alloc _ ?_ | refine le_setCell _ _ ?_ | refine le_drew ?_) | omega | (simp; done) | (simp; omega)))))⟩
set_option maxHeartbeats 1000000 in
theorem sq_tre (ps : List Pt) (h0 : ps ≠ []) : AnsS qTree (treT ps) ps := by
  intro A n c w hn hok hc hcm hs
  have hl : 0 < n := by rw [← hn]; exact List.length_pos_iff.2 h0
  have h20 := (listOk_1 hok).1
  have HH := hide (sSpan_any ps A n c w hn hl hok hs)
  have few := treL_few (ps := ps) (by omega)
  have TL := hide (fun (A2 : Option Addr) (M c2 : Nat) (W : World) (hb : Below w.heap.size w W) (hM : (treL ps).length = M) (he : PtsAt W W.heap.size A2 (treL ps)) => sTot_any ps (treL ps) A A2 n c M c2 W hn (by omega) hok hM (by omega) (treL_val hn) (hs.to hb) he)
  have ab := tre_bd h0 hok
  have FI := hide (fun W : World => sfmt_any (totL ps (treL ps)) W ⟨by omega, by omega⟩)
  unfold treT
  have y1 := lit_no (l := qTree) (q := [104, 117, 108, 108]) (by decide)
  have y2 := lit_no (l := qTree) (q := [97, 114, 101, 97]) (by decide)
  have y3 := lit_no (l := qTree) (q := [100, 105, 97, 109, 101, 116, 101, 114]) (by decide)
  have y4 := lit_no (l := qTree) (q := [99, 105, 114, 99, 108, 101]) (by decide)
  have y5 := lit_yes (l := qTree) (q := [116, 114, 101, 101]) rfl
  clear hn hok hs ab
  generalize bS qTree = S at *
  generalize totL ps (treL ps) = z at *
  go_enter Tryz.func34, Tryz.ntmps34
  go_wp2_with fail
  refine HH.out.mono ?_
  rintro e w2 ⟨A2, n2, c2, rfl, l2, i2, hx⟩
  have B2 := hide (ext_bel hx)
  have TK := hide (TL.out A2 n2 c2 w2 B2.out l2 i2)
  clear hx TL i2 l2
  go_wp2_with fail
  refine TK.out.mono ?_
  rintro e w' ⟨rfl, hw'⟩; have hzy := ext_sz hw'; obtain ⟨y, rfl⟩ := hw'; (try simp at hzy)
  go_wp2_with fail
  refine (FI.out _).mono ?_
  rintro e w' ⟨rfl, hw'⟩; have hzy3 := ext_sz hw'; obtain ⟨y3, rfl⟩ := hw'; (try simp at hzy3)
  go_wp2_with fail
  go_ret
  exact ⟨rfl, ext_mk (B2.out.trans (Below.mono (show Below w2.heap.size w2 _ from (by (repeat' (first | (with_reducible first | exact Below.refl _ _ | assumption | refine below_ext _ ?_ ?_ | refine Below.alloc ?_ ?_ _ | refine Below.drew ?_ | refine below_drewN ?_ _ | refine le_drewN _ ?_ | refine Below.setCell ?_ ?_ _ | exact Nat.le_refl _ | refine le_ext _ ?_ | refine le_alloc _ ?_ | refine le_setCell _ _ ?_ | refine le_drew ?_) | omega | (simp; done) | (simp; omega))))) B2.out.size))⟩
end Go.Proofs.YtnddfdhfefconaaGreatDoor
namespace Go.Proofs.YtnddfdhfefconaaGreatDoor
open Go.RowKit

/-- The answers to all eight questions. -/
def G8 : List UInt8 → List Pt → List UInt8 := ansL diaT cirT kdT treT
theorem G8_short : Short G8 := fun l ps h0 h => ansL_short dia_len cir_len kd_len tre_len l ps h0 h
theorem G8_1 (ps : List Pt) : G8 qHull ps = encE (hullL ps) := by unfold G8 ansL; rw [if_pos rfl]
theorem G8_2 (ps : List Pt) : G8 qArea ps = Lib.itoa (hullArea ps) := by unfold G8 ansL; rw [if_neg (by decide), if_pos rfl]
theorem G8_3 (ps : List Pt) : G8 qInside ps = Lib.itoa (intr ps) := by unfold G8 ansL; rw [if_neg (by decide), if_neg (by decide), if_pos rfl]
theorem G8_4 (ps : List Pt) : G8 qSimple ps = if simB ps = true then sYes else sNo := by unfold G8 ansL; rw [if_neg (by decide), if_neg (by decide), if_neg (by decide), if_pos rfl]
theorem G8_5 (ps : List Pt) : G8 qDiameter ps = diaT ps := by unfold G8 ansL; rw [if_neg (by decide), if_neg (by decide), if_neg (by decide), if_neg (by decide), if_pos rfl]
theorem G8_6 (ps : List Pt) : G8 qCircle ps = cirT ps := by unfold G8 ansL; rw [if_neg (by decide), if_neg (by decide), if_neg (by decide), if_neg (by decide), if_neg (by decide), if_pos rfl]
theorem G8_7 (ps : List Pt) : G8 qKd ps = kdT ps := by unfold G8 ansL; rw [if_neg (by decide), if_neg (by decide), if_neg (by decide), if_neg (by decide), if_neg (by decide), if_neg (by decide), if_pos rfl]
theorem G8_8 (ps : List Pt) : G8 qTree ps = treT ps := by unfold G8 ansL; rw [if_neg (by decide), if_neg (by decide), if_neg (by decide), if_neg (by decide), if_neg (by decide), if_neg (by decide), if_neg (by decide), if_pos rfl]
theorem cmdI8 (l : List UInt8) (ps : List Pt) (w : World) (hok : ps ≠ [] → listOk ps = true) (ht : Tab w) : CmdI G8 l ps w := by
  intro h0 k hk A n c W hb hn hc hcm hs hA
  have ok := hok h0
  have tb := ht.to hb
  unfold cmdFn at hk
  split at hk
  · rename_i e; injection hk with hk; subst hk e; rw [G8_1]; exact q1_any ps A n c W hn ok hs hA tb
  split at hk
  · rename_i e; injection hk with hk; subst hk e; rw [G8_2]; exact q2_any ps A n c W hn ok hs hA tb
  split at hk
  · rename_i e; injection hk with hk; subst hk e; rw [G8_3]; exact q3_any ps A n c W hn ok hs hA tb
  split at hk
  · rename_i e; injection hk with hk; subst hk e; rw [G8_4]; exact q4_any ps A n c W hn ok hs hA
  split at hk
  · rename_i e; injection hk with hk; subst hk e; rw [G8_5]; exact q5_any ps A n c W hn h0 ok hs tb
  split at hk
  · rename_i e; injection hk with hk; subst hk e; rw [G8_6]; exact q6_any ps A n c W hn ok hs tb
  split at hk
  · rename_i e; injection hk with hk; subst hk e; rw [G8_7]; exact q7_any ps A n c W hn h0 ok hs tb
  split at hk
  · rename_i e; injection hk with hk; subst hk e; rw [G8_8]; exact q8_any ps A n c W hn h0 ok hs tb
  · cases hk
/-- The program's session. -/
theorem iRun8 (ls : List (List UInt8)) (A : Option Addr) (n c : Nat) (w : World) (hn : ls.length = n) (hcap : n ≤ c) (hcm : c ≤ 9223372036854775807) (hl : ∀ l ∈ ls, l.length ≤ 1048576) (hs : StrsAt w w.heap.size A ls) (ht : Tab w) (hE : Errs w) (hM : MaxL w) :
    Calls Tryz.prog 11 #[.slice A n c] w fun e w' => e = .returned (.string (bS (runL G8 ls))) ∧ Below w.heap.size w w' :=
  iRun_any G8 G8_short ls A n c w hn hcap hcm hl hs ht hE hM (fun k _ => cmdI8 _ _ w (stN_ok G8 ls k) ht)
theorem cmdS8 (l : List UInt8) (ps : List Pt) (w : World) (hok : ps ≠ [] → listOk ps = true) : CmdS G8 l ps w := by
  intro h0 _ A n c W hb hn hc hcm hs
  have ok := hok h0
  by_cases h1 : l = qHull
  · subst h1; rw [if_pos (by decide), G8_1]; exact sq_hull ps A n c W hn ok hc hcm hs
  by_cases h2 : l = qArea
  · subst h2; rw [if_pos (by decide), G8_2]; exact sq_area ps A n c W hn ok hc hcm hs
  by_cases h3 : l = qInside
  · subst h3; rw [if_pos (by decide), G8_3]; exact sq_inside ps A n c W hn ok hc hcm hs
  by_cases h4 : l = qSimple
  · subst h4; rw [if_pos (by decide), G8_4]; exact sq_simple ps A n c W hn ok hc hcm hs
  by_cases h5 : l = qDiameter
  · subst h5; rw [if_pos (by decide), G8_5]; exact sq_dia ps h0 A n c W hn ok hc hcm hs
  by_cases h6 : l = qCircle
  · subst h6; rw [if_pos (by decide), G8_6]; exact sq_cir ps h0 A n c W hn ok hc hcm hs
  by_cases h7 : l = qKd
  · subst h7; rw [if_pos (by decide), G8_7]; exact sq_kd ps A n c W hn ok hc hcm hs
  by_cases h8 : l = qTree
  · subst h8; rw [if_pos (by decide), G8_8]; exact sq_tre ps h0 A n c W hn ok hc hcm hs
  have e : cmdFn l = none := by
    unfold cmdFn
    rw [if_neg h1, if_neg h2, if_neg h3, if_neg h4, if_neg h5, if_neg h6, if_neg h7, if_neg h8]
  rw [if_neg (by rw [e]; simp)]
  exact sq_what l ps e A n c W
/-- The reference's session. -/
theorem sRun8 (ls : List (List UInt8)) (A : Option Addr) (n c : Nat) (w : World) (hn : ls.length = n) (hcm : n ≤ 9223372036854775807) (hl : ∀ l ∈ ls, l.length ≤ 1048576) (hs : StrsAt w w.heap.size A ls) :
    Calls Tryz.prog 13 #[.slice A n c] w fun e w' => e = .returned (.string (bS (runL G8 ls))) ∧ ∃ x, w' = ext w x :=
  sRun_any G8 G8_short ls A n c w hn hcm hl hs (fun k _ => cmdS8 _ _ w (stN_ok G8 ls k))
end Go.Proofs.YtnddfdhfefconaaGreatDoor
