
/- The program's RunSession returns what the reference's returns. -/
import Derived.Test.YtnddfdhfefconaaGreatDoorSes8
set_option linter.unusedVariables false
set_option linter.unusedSimpArgs false
namespace Go.Proofs.YtnddfdhfefconaaGreatDoor
open Go.RowKit

set_option maxHeartbeats 1000000 in
theorem szS_any (ss : List (List UInt8)) (A : Option Addr) (n c : Nat) (w : World) (hn : ss.length = n) (hm : n ≤ 9223372036854775807) (hl : ∀ l ∈ ss, l.length ≤ 9223372036854775807) (hs : StrsAt w w.heap.size A ss) :
    Calls Tryz.prog 17 #[.slice A n c, .int .i64 1048576] w fun e w' => ∃ z : Int, e = .returned (.int .i64 z) ∧ (0 ≤ z → n ≤ 1048576 ∧ ∀ l ∈ ss, l.length ≤ 1048576) ∧ w = w' := by
  have HN := hide hn
  have HS := hide hs
  have HL := hide (fun k (hk : k < n) => hl _ (gstr_mem (ss := ss) (i := k) (by omega)))
  have AL : Hid ((∀ k, k < n → (gstr ss k).length ≤ 1048576) → ∀ l ∈ ss, l.length ≤ 1048576) := hide (fun h l hl => by
    obtain ⟨i, hi, rfl⟩ := List.getElem_of_mem hl
    have := h i (by omega)
    unfold gstr at this
    rwa [List.getD_eq_getElem?_getD, List.getElem?_eq_getElem hi] at this)
  clear hn hl hs
  by_cases hb : 1048576 < n
  · have q1 : (1048576 : Int) - (n : Int) < 0 := by omega
    clear HS HL AL
    go_enter Tryz.func17, Tryz.ntmps17
    go_wp2_with fail
    go_ret
    exact ⟨-1, rfl, fun h => by omega, rfl⟩
  · have hn2 : n ≤ 1048576 := by omega
    go_enter Tryz.func17, Tryz.ntmps17
    go_wp2_with fail
    go_loopw [1, 5] (fun u1 u5 wr => ∃ (k : Nat) (z : Int), k ≤ n ∧ 0 ≤ z ∧ z ≤ 1048576 ∧ u5 = .int .i64 k ∧ u1 = .int .i64 z ∧ Hid (∀ j, j < k → (gstr ss j).length ≤ 1048576) ∧ wr = w) (fun _ u5 _ => n - (intOf u5).toNat)
    case atStart => exact ⟨0, 1048576 - n, Nat.zero_le _, by omega, by omega, rfl, rfl, hide (fun j hj => by omega), rfl⟩
    case round =>
      obtain ⟨k, z, hk, hz1, hz2, rfl, rfl, HK, rfl⟩ := hrel
      by_cases hlt : k < n
      · obtain ⟨b, o, rfl, hb1, hc⟩ := HS.out (by rw [HN.out]; omega)
        have ck := hc k (by rw [HN.out]; exact hlt)
        have lk := HL.out k hlt
        have sz := bS_size (gstr ss k)
        have q1 : (0 : Int) ≤ (k : Int) := by omega
        have q2 : (k : Int) < (n : Int) := by omega
        by_cases hneg : z - ((gstr ss k).length : Int) < 0
        · clear hc HS HL AL HK
          rw [← sz] at hneg lk
          clear sz
          generalize bS (gstr ss k) = S at *
          go_wp2_with fail
          go_ret
          exact ⟨-1, rfl, fun h => by omega, rfl⟩
        · have HK2 : Hid (∀ j, j < k + 1 → (gstr ss j).length ≤ 1048576) := hide (fun j hj => by
            by_cases e : j = k
            · rw [e]; omega
            · exact HK.out j (by omega))
          clear hc HS HL AL HK
          rw [← sz] at hneg lk
          clear sz
          generalize bS (gstr ss k) = S at *
          go_wp2_with fail
          exact ⟨⟨k + 1, _, hlt, by omega, by omega, by go_num, rfl, HK2, trivial⟩, by simp [intOf]; omega⟩
      · have AL2 := AL.out (fun j hj => HK.out j (by omega))
        have AH := hide AL2
        clear AL2 HK AL HL HS
        go_wp2_with fail
        go_ret
        exact ⟨z, rfl, fun _ => ⟨hn2, AH.out⟩, rfl⟩
def strCell (ss : List (List UInt8)) (j : Nat) : Value := .string (bS (gstr ss j))
set_option maxHeartbeats 1000000 in
theorem toS_any (ss : List (List UInt8)) (A : Option Addr) (n c : Nat) (w : World) (hn : ss.length = n) (hm : n ≤ 1048576) (hs : StrsAt w w.heap.size A ss) :
    Calls Tryz.prog 18 #[.slice A n c] w fun e w' => ∃ g, e = .returned (.slice (some ⟨g, 0, none⟩) n n) ∧ StrsAt w' w'.heap.size (some ⟨g, 0, none⟩) ss ∧ ∃ m, w' = ext w m := by
  obtain ⟨i0, hi, hz0, hz1, hz2⟩ := info_parts strElt.inf
  have hmk : ∀ w : World, (Instr.makeSlice 27 (.int .i64 (n : Int)) (.int .i64 (n : Int))).run Tryz.prog w = .ok (.slice (some ⟨w.heap.size, 0, none⟩) n n) (w.alloc (.cells (madeCells #[.string ⟨#[]⟩] (n * 1)) 9)) := by
    have := fun w => make_row (P := Tryz.prog) 27 9 i0 _ Tryz.underlying27 hi hz0 n n (Nat.le_refl _) (by rw [hz2]; omega) (by omega) w
    rw [hz1] at this; exact this
  clear hi hz0 hz1 hz2
  rw [Nat.mul_one] at hmk
  have HN := hide hn
  have HS := hide hs
  clear hn hs
  go_enter Tryz.func18, Tryz.ntmps18
  go_wp2
  go_loopw [4] (fun v wr => ∃ k : Nat, k ≤ n ∧ v = .int .i64 k ∧ Hid (∃ f, RowAt wr w.heap.size 9 n f ∧ ∀ j, j < k → f j = strCell ss j) ∧ Below w.heap.size w wr) (fun v _ => n - (intOf v).toNat)
  case atStart => exact ⟨0, Nat.zero_le _, rfl, hide ⟨fun j => (madeCells #[.string ⟨#[]⟩] n).getD j default, by
      have h := RowAt.new w (madeCells #[.string ⟨#[]⟩] n) 9 (f := fun j => (madeCells #[.string ⟨#[]⟩] n).getD j default) (fun j hj => by
        show _ = some ((madeCells #[.string ⟨#[]⟩] n).getD j default)
        rw [Array.getD_eq_getD_getElem?, Array.getElem?_eq_getElem hj]; rfl)
      rw [size_madeCells] at h; exact h, fun j hj => by omega⟩, (by (repeat' (first | (with_reducible first | exact Below.refl _ _ | assumption | refine below_ext _ ?_ ?_ | refine Below.alloc ?_ ?_ _ | refine Below.drew ?_ | refine below_drewN ?_ _ | refine le_drewN _ ?_ | refine Below.setCell ?_ ?_ _ | exact Nat.le_refl _ | refine le_ext _ ?_ | refine le_alloc _ ?_ | refine le_setCell _ _ ?_ | refine le_drew ?_) | omega | (simp; done) | (simp; omega))))⟩
  case round =>
    obtain ⟨k, hk, rfl, HR, hb⟩ := hrel
    obtain ⟨f, hrow, hf⟩ := HR.out
    by_cases hlt : k < n
    · obtain ⟨b, o, rfl, hb0, hc⟩ := HS.out (by rw [HN.out]; omega)
      have hx := (hb.cell (p := ⟨b, o + k, none⟩) hb0).trans (hc k (by rw [HN.out]; omega))
      have c1 := hrow.cell (j := k) hlt
      have f1 := hrow.frozen k
      have hlt2 := hrow.lt
      have q1 : (0 : Int) ≤ (k : Int) := by omega
      have q2 : (k : Int) < (n : Int) := by omega
      have HF2 : Hid (∃ f, RowAt (wr.setCell ⟨w.heap.size, k, none⟩ (.string (bS (gstr ss k)))) w.heap.size 9 n f ∧ ∀ j, j < k + 1 → f j = strCell ss j) := hide ⟨_, hrow.set hlt _, fun j hj => by
        by_cases e : j = k
        · subst e; simp only [if_pos]; rfl
        · simp only [if_neg e]; exact hf j (by omega)⟩
      have HB2 : Hid (Below w.heap.size w (wr.setCell ⟨w.heap.size, k, none⟩ (.string (bS (gstr ss k))))) := hide (hb.setCell (Nat.le_refl _) _)
      clear hc hf HR hrow HS
      generalize bS (gstr ss k) = S at *
      go_wp2_with fail
      exact ⟨⟨k + 1, by omega, by go_num, HF2, HB2.out⟩, by simp [intOf]; omega⟩
    · have ek : k = n := by omega
      have SA : Hid (StrsAt wr wr.heap.size (some ⟨w.heap.size, 0, none⟩) ss) := hide (fun _ => ⟨w.heap.size, 0, rfl, hrow.lt, fun i hi => by
        rw [Nat.zero_add, hrow.cell (by have := HN.out; omega), hf i (by have := HN.out; omega)]; rfl⟩)
      clear ek hf hrow HR
      go_wp2
      go_ret
      exact ⟨w.heap.size, rfl, SA.out, ext_mk hb⟩
set_option maxHeartbeats 1000000 in
theorem eqS_any (ss : List (List UInt8)) (A A' : Option Addr) (n c c' : Nat) (w : World) (hn : ss.length = n) (hm : n ≤ 1048576) (hs : StrsAt w w.heap.size A ss) (hs' : StrsAt w w.heap.size A' ss) :
    Calls Tryz.prog 19 #[.slice A n c, .slice A' n c'] w fun e w' => e = .returned (.bool true) ∧ ∃ m, w' = ext w m := by
  have HN := hide hn
  have HS := hide hs
  have HS' := hide hs'
  clear hn hs hs'
  go_enter Tryz.func19, Tryz.ntmps19
  go_wp2
  go_loopw [5] (fun v wr => ∃ k : Nat, k ≤ n ∧ v = .int .i64 k ∧ ∃ x, wr = ext w x) (fun v _ => n - (intOf v).toNat)
  case atStart => exact ⟨0, Nat.zero_le _, rfl, ext_same w⟩
  case round =>
    obtain ⟨k, hk, rfl, x, rfl⟩ := hrel
    have hsz := ext_size w x
    by_cases hlt : k < n
    · obtain ⟨b, o, rfl, hb, hc⟩ := HS.out (by rw [HN.out]; omega)
      have hx := hc k (by rw [HN.out]; omega)
      obtain ⟨b', o', rfl, hb', hc'⟩ := HS'.out (by rw [HN.out]; omega)
      have hx' := hc' k (by rw [HN.out]; omega)
      have q1 : (0 : Int) ≤ (k : Int) := by omega
      have q2 : (k : Int) < (n : Int) := by omega
      have EQ := bS_ne (gstr ss k) (gstr ss k)
      rw [decide_eq_true rfl] at EQ
      have NE : ((bS (gstr ss k)).toList != (bS (gstr ss k)).toList) = false := by rw [bne, EQ]; rfl
      clear hc hc' HS HS'
      generalize bS (gstr ss k) = S at *
      go_wp2_with fail
      refine wp_region_ext (by kernel_rfl) (by kernel_rfl) ?_
      repeat (go_big_quiet_step (fail))
      refine wpQuiet_nil ?_
      rintro _ hnq
      have hzq := ext_sz hnq
      obtain ⟨nq, rfl⟩ := hnq
      (try simp at hzq)
      go_wp2_with fail
      exact ⟨⟨k + 1, hlt, by go_num, (ext_mk (by (repeat' (first | (with_reducible first | exact Below.refl _ _ | assumption | refine below_ext _ ?_ ?_ | refine Below.alloc ?_ ?_ _ | refine Below.drew ?_ | refine below_drewN ?_ _ | refine le_drewN _ ?_ | refine Below.setCell ?_ ?_ _ | exact Nat.le_refl _ | refine le_ext _ ?_ | refine le_alloc _ ?_ | refine le_setCell _ _ ?_ | refine le_drew ?_) | omega | (simp; done) | (simp; omega)))))⟩, by simp [intOf]; omega⟩
    · clear HS HS'
      go_wp2
      go_ret
      exact ⟨rfl, (ext_mk (by (repeat' (first | (with_reducible first | exact Below.refl _ _ | assumption | refine below_ext _ ?_ ?_ | refine Below.alloc ?_ ?_ _ | refine Below.drew ?_ | refine below_drewN ?_ _ | refine le_drewN _ ?_ | refine Below.setCell ?_ ?_ _ | exact Nat.le_refl _ | refine le_ext _ ?_ | refine le_alloc _ ?_ | refine le_setCell _ _ ?_ | refine le_drew ?_) | omega | (simp; done) | (simp; omega)))))⟩
set_option maxRecDepth 20000 in
set_option maxHeartbeats 4000000 in
theorem lawExS (ss : List (List UInt8)) (A : Option Addr) (n c : Nat) (w : World) (hn : ss.length = n) (hcap : n ≤ c) (hc : c ≤ 9223372036854775807) (hl : ∀ l ∈ ss, l.length ≤ 9223372036854775807) (hs : StrsAt w w.heap.size A ss) (ht : Tab w) (hE : Errs w) (hM : MaxL w) :
    Calls Tryz.prog 7 #[.slice A n c] w fun e w' => e = .returned (.bool true) ∧ Below w.heap.size w w' := by
  have SZ := hide (szS_any ss A n c w hn (by omega) hl hs)
  have TS := hide (fun (W : World) (h : n ≤ 1048576) (hb : Below w.heap.size w W) => toS_any ss A n c W hn h (hs.to hb))
  have IR := hide (fun (A' : Option Addr) (W : World) (h : n ≤ 1048576) (h2 : ∀ l ∈ ss, l.length ≤ 1048576) (hb : Below w.heap.size w W) (h3 : StrsAt W W.heap.size A' ss) => iRun8 ss A' n n W hn (Nat.le_refl _) (by omega) h2 h3 (ht.to hb) (hE.to hb) (hM.to hb))
  have SR := hide (fun (A' : Option Addr) (W : World) (h : n ≤ 1048576) (h2 : ∀ l ∈ ss, l.length ≤ 1048576) (h3 : StrsAt W W.heap.size A' ss) => sRun8 ss A' n n W hn (by omega) h2 h3)
  have EQ := hide (fun (A' A2 : Option Addr) (W : World) (h : n ≤ 1048576) (h1 : StrsAt W W.heap.size A' ss) (h2 : StrsAt W W.heap.size A2 ss) => eqS_any ss A' A2 n n n W hn h h1 h2)
  have ES := bS_ne (runL G8 ss) (runL G8 ss)
  rw [decide_eq_true rfl] at ES
  have NE : ((bS (runL G8 ss)).toList != (bS (runL G8 ss)).toList) = false := by rw [bne, ES]; rfl
  clear hn hl hs ht hE hM
  generalize bS (runL G8 ss) = R at *
  go_enter Tryz.func7, Tryz.ntmps7
  go_wp2_with fail
  refine SZ.out.mono ?_
  rintro e w1 ⟨z, rfl, hz, rfl⟩
  clear SZ
  by_cases h0 : z < 0
  · clear hz
    go_wp2_with fail
    go_ret
    exact ⟨rfl, Below.refl _ _⟩
  · obtain ⟨hn2, hl2⟩ := hz (by omega)
    have HL2 := hide hl2
    clear hl2
    go_wp2_with fail
    refine (TS.out _ hn2 (Below.refl _ _)).mono ?_
    rintro e w2 ⟨g2, rfl, h2, hx⟩
    have S2 := hide h2
    have F2 := ext_bel hx
    clear hx h2
    go_wp2_with fail
    refine (SR.out _ w2 hn2 HL2.out S2.out).mono ?_
    rintro e w3 ⟨rfl, hx⟩
    have F3 := F2.trans ((ext_bel hx).mono F2.size)
    clear hx
    go_wp2_with fail
    refine (TS.out _ hn2 F3).mono ?_
    rintro e w4 ⟨g4, rfl, h4, hx⟩
    have S4 := hide h4
    have F4 := F3.trans ((ext_bel hx).mono F3.size)
    clear hx h4
    go_wp2_with fail
    refine (IR.out _ w4 hn2 HL2.out F4 S4.out).mono ?_
    rintro e w5 ⟨rfl, hb5⟩
    have S5 := hide (S4.out.below hb5)
    have S5' := hide (show StrsAt w5 w5.heap.size (some ⟨g4, 0, none⟩) ss from fun h0 => by
      obtain ⟨b, o, h1, h2, h3⟩ := S5.out h0
      exact ⟨b, o, h1, Nat.lt_of_lt_of_le h2 hb5.size, h3⟩)
    have F5 := F4.trans (hb5.mono F4.size)
    clear hb5 S5
    go_wp2_with fail
    refine (TS.out _ hn2 F5).mono ?_
    rintro e w6 ⟨g6, rfl, h6, hx⟩
    have S6 := hide h6
    have S65 := hide (S5'.out.to (ext_bel hx))
    have F6 := F5.trans ((ext_bel hx).mono F5.size)
    clear hx h6
    go_wp2_with fail
    refine (EQ.out _ _ w6 hn2 S65.out S6.out).mono ?_
    rintro e w7 ⟨rfl, hx⟩
    have F7 := F6.trans ((ext_bel hx).mono F6.size)
    clear hx
    go_wp2_with fail
    go_ret
    exact ⟨rfl, F7⟩
end Go.Proofs.YtnddfdhfefconaaGreatDoor
