
/- A session's answer to a line; whatever the questions answer. -/
import Derived.Test.YtnddfdhfefconaaGreatDoorTold
import Derived.Test.YtnddfdhfefconaaGreatDoorBld
import Derived.Test.YtnddfdhfefconaaGreatDoorQst
import Derived.Test.YtnddfdhfefconaaGreatDoorDecI
set_option linter.unusedVariables false
set_option linter.unusedSimpArgs false
namespace Go.Proofs.YtnddfdhfefconaaGreatDoor
open Go.RowKit

def qPts : List UInt8 := [112, 111, 105, 110, 116, 115, 32]
def sOk : List UInt8 := [111, 107]
def sNo : List UInt8 := [110, 111]
def sWhat : List UInt8 := [119, 104, 97, 116]
/-- What a line is answered, and the points behind it; G: what the questions answer. -/
def stepL (G : List UInt8 → List Pt → List UInt8) (l : List UInt8) (ps : List Pt) : List UInt8 × List Pt :=
  if Lib.hasPrefix l qPts = true then (if (decL (Lib.trimPrefix l qPts)).2 = true then (sOk, (decL (Lib.trimPrefix l qPts)).1) else (sNo, ps))
  else if (cmdFn l).isSome = true ∧ ps ≠ [] then (G l ps, ps) else (sWhat, ps)
theorem decL_ok (l : List UInt8) (h : (decL l).2 = true) : listOk (decL l).1 = true ∧ (decL l).1 ≠ [] := by
  obtain ⟨h1, h2, h3⟩ := decL_yes h
  exact ⟨h2, h1⟩
theorem stepL_ok {G : List UInt8 → List Pt → List UInt8} {l : List UInt8} {ps : List Pt} (h : ps ≠ [] → listOk ps = true) : (stepL G l ps).2 ≠ [] → listOk (stepL G l ps).2 = true := by
  unfold stepL
  split
  · split
    · rename_i h2
      intro _
      exact (decL_ok _ h2).1
    · exact h
  · split <;> exact h
/-- The session at block sb has these points, in memory of its own from base on. -/
def Sess (w : World) (base sb : Nat) (ps : List Pt) : Prop :=
  ∃ A n c, w.heap[sb]? = some (.cells #[.slice A n c] 46 (0, 0)) ∧ ps.length = n ∧ n ≤ c ∧ c ≤ 9223372036854775807 ∧ PRow w base A ps
theorem Sess.lt {w : World} {base sb : Nat} {ps : List Pt} (h : Sess w base sb ps) : sb < w.heap.size := by
  obtain ⟨A, n, c, h, _⟩ := h
  exact heap_lt h
theorem Sess.below {w W : World} {base sb : Nat} {ps : List Pt} (h : Sess w base sb ps) (hb : Below w.heap.size w W) : Sess W base sb ps := by
  obtain ⟨A, n, c, h1, h2, h3, h4, h5⟩ := h
  exact ⟨A, n, c, (hb.block _ (heap_lt h1)).trans h1, h2, h3, h4, h5.below hb⟩
theorem grown_bel {w W W' : World} {sb : Nat} (h : w.grownBy W (some sb)) (hb : Below W.heap.size W W') : w.grownBy W' (some sb) :=
  ⟨hb.os.trans h.os, hb.tape.trans h.tape, hb.output.trans h.output, Nat.le_trans h.size hb.size, fun k hk hne => (hb.block k (Nat.lt_of_lt_of_le hk h.size)).trans (h.block k hk hne)⟩
theorem bel_grown {w W : World} (hb : Below w.heap.size w W) (o : Option Nat) : w.grownBy W o := ⟨hb.os, hb.tape, hb.output, hb.size, fun k hk _ => hb.block k hk⟩
theorem store_grown {w W : World} (hb : Below w.heap.size w W) (sb : Nat) (v : Value) : w.grownBy (W.setCell ⟨sb, 0, none⟩ v) (some sb) :=
  ⟨hb.os, hb.tape, hb.output, by simpa using hb.size, fun k hk hne => (Below.heap_setCell W ⟨sb, 0, none⟩ v k (fun e => hne (by rw [e]))).trans (hb.block k hk)⟩
theorem cmd_enters {l : List UInt8} {k : Nat} (h : cmdFn l = some k) : ∀ args w, (callFunc k args).run Tryz.prog w = .ok (.enter k args) w := by
  unfold cmdFn at h
  split at h
  · injection h with h; subst h; exact enters _ Tryz.func87 (by kernel_rfl) rfl
  split at h
  · injection h with h; subst h; exact enters _ Tryz.func88 (by kernel_rfl) rfl
  split at h
  · injection h with h; subst h; exact enters _ Tryz.func91 (by kernel_rfl) rfl
  split at h
  · injection h with h; subst h; exact enters _ Tryz.func93 (by kernel_rfl) rfl
  split at h
  · injection h with h; subst h; exact enters _ Tryz.func94 (by kernel_rfl) rfl
  split at h
  · injection h with h; subst h; exact enters _ Tryz.func96 (by kernel_rfl) rfl
  split at h
  · injection h with h; subst h; exact enters _ Tryz.func98 (by kernel_rfl) rfl
  split at h
  · injection h with h; subst h; exact enters _ Tryz.func100 (by kernel_rfl) rfl
  · cases h
/-- The questions answer as G says, at this line and these points. -/
def CmdI (G : List UInt8 → List Pt → List UInt8) (l : List UInt8) (ps : List Pt) (w : World) : Prop :=
  ps ≠ [] → ∀ k, cmdFn l = some k → ∀ (A : Option Addr) (n c : Nat) (W : World), Below w.heap.size w W → ps.length = n → n ≤ c → c ≤ 9223372036854775807 → PtsAt W W.heap.size A ps → Plain A n →
    Calls Tryz.prog k #[.slice A n c] W fun e w' => e = .returned (.string (bS (G l ps))) ∧ ∃ x, w' = ext W x
set_option maxRecDepth 20000 in
set_option maxHeartbeats 4000000 in
theorem iAns_any (G : List UInt8 → List Pt → List UInt8) (l : List UInt8) (ps : List Pt) (base sb : Nat) (w : World) (hl : l.length ≤ 1048576) (hS : Sess w base sb ps) (hbase : base ≤ w.heap.size) (hsb : base ≤ sb) (ht : Tab w) (hE : Errs w) (hM : MaxL w) (hC : CmdI G l ps w) :
    Calls Tryz.prog 28 #[.pointer (some ⟨sb, 0, none⟩), .string (bS l)] w fun e w' => e = .returned (.string (bS (stepL G l ps).1)) ∧ Sess w' base sb (stepL G l ps).2 ∧ w.grownBy w' (some sb) := by
  have HS := hide hS
  have CP := hide (fun W => cutp_any l qPts W)
  have lsb := hS.lt
  obtain ⟨A, n, c, hbk, hn, hcap, hcm, hrow⟩ := hS
  have cb := heap_cell hbk 0
  have fb := heap_frozen hbk 0
  simp at cb
  cases hp : Lib.hasPrefix l qPts
  · have e1 : stepL G l ps = if (cmdFn l).isSome = true ∧ ps ≠ [] then (G l ps, ps) else (sWhat, ps) := by unfold stepL; rw [if_neg (by rw [hp]; simp)]
    rw [hp] at CP
    have EQ := hide e1
    clear e1 hp hbk
    have QS := hide (questions_any w)
    cases hc : cmdFn l with
    | none =>
      have e2 : stepL G l ps = (sWhat, ps) := by rw [EQ.out, if_neg (by rw [hc]; simp)]
      rw [e2]
      clear EQ e2 hC hrow
      have LK := hide (fun (W : World) (b : Nat) (h : W.ownsMap Tryz.prog 9 fnR b 8 cmdD) => (look_cmd h l (by omega)).2 hc)
      clear hc
      have SW : Hid ((⟨#[119, 104, 97, 116]⟩ : ByteArray) = bS sWhat) := hide rfl
      generalize bS (Lib.trimPrefix l qPts) = R at *
      generalize bS l = S at *
      go_enter Tryz.func28, Tryz.ntmps28
      go_wp2_with (go_at_call 49; refine (CP.out _).mono ?_; rintro e w1 ⟨rfl, rfl⟩)
      refine QS.out.mono ?_
      rintro e w2 ⟨rfl, hown, hx⟩
      have B2 := hide (ext_bel hx)
      obtain ⟨z, LZ⟩ := LK.out _ _ hown
      clear hx hown LK
      go_wp2_with fail
      go_ret
      exact ⟨by rw [SW.out]; rfl, HS.out.below B2.out, bel_grown B2.out _⟩
    | some k =>
      have LK := hide (fun (W : World) (b : Nat) (h : W.ownsMap Tryz.prog 9 fnR b 8 cmdD) => (look_cmd h l (by omega)).1 k hc)
      have EN := hide (cmd_enters hc)
      by_cases h0 : ps = []
      · have e2 : stepL G l ps = (sWhat, ps) := by rw [EQ.out, if_neg (fun h => h.2 h0)]
        rw [e2]
        have hn0 : n = 0 := by rw [← hn, h0]; rfl
        subst hn0
        clear EQ e2 hC hrow hc h0 EN
        have SW : Hid ((⟨#[119, 104, 97, 116]⟩ : ByteArray) = bS sWhat) := hide rfl
        generalize bS (Lib.trimPrefix l qPts) = R at *
        generalize bS l = S at *
        go_enter Tryz.func28, Tryz.ntmps28
        go_wp2_with (go_at_call 49; refine (CP.out _).mono ?_; rintro e w1 ⟨rfl, rfl⟩)
        refine QS.out.mono ?_
        rintro e w2 ⟨rfl, hown, hx⟩
        have B2 := hide (ext_bel hx)
        have LZ := LK.out _ _ hown
        have cb2 := (B2.out.cell (p := ⟨sb, 0, none⟩) lsb).trans cb
        clear hx hown LK
        go_wp2_with fail
        go_ret
        exact ⟨by rw [SW.out]; rfl, HS.out.below B2.out, bel_grown B2.out _⟩
      · have e2 : stepL G l ps = (G l ps, ps) := by rw [EQ.out, if_pos ⟨by rw [hc]; rfl, h0⟩]
        rw [e2]
        have n0 : 0 < n := by rw [← hn]; exact List.length_pos_iff.2 h0
        obtain ⟨g, m, f, hA, _⟩ := hrow (by omega)
        have PL : Plain A n := by rw [hA]; exact Plain.some
        have CI := hide (fun (W : World) (hb : Below w.heap.size w W) => hC h0 k hc A n c W hb hn hcap hcm (hrow.pts.to hb) PL)
        have d0 : ((n : Int) == 0) = false := by rw [beq_eq_false_iff_ne]; omega
        clear EQ e2 hC hrow hc h0 hA PL
        generalize bS (Lib.trimPrefix l qPts) = R at *
        generalize bS l = S at *
        go_enter Tryz.func28, Tryz.ntmps28
        go_wp2_with (go_at_call 49; refine (CP.out _).mono ?_; rintro e w1 ⟨rfl, rfl⟩)
        refine QS.out.mono ?_
        rintro e w2 ⟨rfl, hown, hx⟩
        have B2 := hide (ext_bel hx)
        have LZ := LK.out _ _ hown
        have cb2 := (B2.out.cell (p := ⟨sb, 0, none⟩) lsb).trans cb
        have eg := EN.out
        clear hx hown LK
        go_wp2_with (go_at_fn k; refine (CI.out _ B2.out).mono ?_; rintro e w3 ⟨rfl, hx3⟩; have B3 := hide (B2.out.trans ((ext_bel hx3).mono B2.out.size)); clear hx3)
        go_ret
        exact ⟨rfl, HS.out.below B3.out, bel_grown B3.out _⟩
  · rw [hp] at CP
    have ID := hide (iDecL_any (Lib.trimPrefix l qPts) w (by unfold Lib.trimPrefix; split <;> (try rw [List.length_drop]) <;> omega) ht hE hM)
    have YS := hide yes_any
    have O1 : Hid ((⟨#[111, 107]⟩ : ByteArray) = bS sOk) := hide rfl
    have O2 : Hid ((⟨#[110, 111]⟩ : ByteArray) = bS sNo) := hide rfl
    cases hd : (decL (Lib.trimPrefix l qPts)).2
    · have e2 : stepL G l ps = (sNo, ps) := by unfold stepL; rw [if_pos hp, if_neg (by rw [hd]; simp)]
      rw [e2]
      rw [hd] at ID
      clear e2 hC hrow hd hp
      generalize (decL (Lib.trimPrefix l qPts)).1 = D at *
      generalize bS (Lib.trimPrefix l qPts) = R at *
      generalize bS l = S at *
      go_enter Tryz.func28, Tryz.ntmps28
      go_wp2_with (go_at_call 49; refine (CP.out _).mono ?_; rintro e w1 ⟨rfl, rfl⟩)
      refine ID.out.mono ?_
      rintro e w2 ⟨A2, n2, c2, rfl, l2, q2, qb2, pr2, hx⟩
      have B2 := hide (ext_bel hx)
      clear hx pr2 l2
      go_wp2_with fail
      refine (YS.out _ _ _ _).mono ?_
      rintro e w3 ⟨rfl, rfl⟩
      go_wp2_with fail
      go_ret
      exact ⟨by simp [O2.out], HS.out.below B2.out, bel_grown B2.out _⟩
    · have e2 : stepL G l ps = (sOk, (decL (Lib.trimPrefix l qPts)).1) := by unfold stepL; rw [if_pos hp, if_pos hd]
      rw [e2]
      rw [hd] at ID
      clear e2 hC hrow hd hp HS
      generalize (decL (Lib.trimPrefix l qPts)).1 = D at *
      generalize bS (Lib.trimPrefix l qPts) = R at *
      generalize bS l = S at *
      go_enter Tryz.func28, Tryz.ntmps28
      go_wp2_with (go_at_call 49; refine (CP.out _).mono ?_; rintro e w1 ⟨rfl, rfl⟩)
      refine ID.out.mono ?_
      rintro e w2 ⟨A2, n2, c2, rfl, l2, q2, qb2, pr2, hx⟩
      have B2 := hide (ext_bel hx)
      have cb2 := (B2.out.cell (p := ⟨sb, 0, none⟩) lsb).trans cb
      have fb2 := (B2.out.frozen (p := ⟨sb, 0, none⟩) lsb).trans fb
      have hb2 := hide ((B2.out.block sb lsb).trans hbk)
      have P2 := hide pr2
      have L2 := hide l2
      have zw := B2.out.size
      clear hx pr2 l2
      go_wp2_with fail
      refine (YS.out _ _ _ _).mono ?_
      rintro e w3 ⟨rfl, rfl⟩
      go_wp2_with fail
      go_ret
      refine ⟨by simp [O1.out], ⟨A2, n2, c2, cell_set1 hb2.out _, L2.out, q2, qb2, ?_⟩, store_grown B2.out sb _⟩
      intro h0
      obtain ⟨g, m, f, hA, hg, hm, hr, hf⟩ := P2.out h0
      exact ⟨g, m, f, hA, by omega, hm, hr.far (show g ≠ sb by omega) _, hf⟩
end Go.Proofs.YtnddfdhfefconaaGreatDoor
