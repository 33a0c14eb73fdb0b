
/- A session's answer to a line; whatever the questions answer. -/
/- RunSession of the program, whatever the questions answer. -/
import Derived.Test.YtnddfdhfefconaaGreatDoorTold
import Derived.Test.YtnddfdhfefconaaGreatDoorDecI
set_option linter.unusedVariables false
set_option linter.unusedSimpArgs false
namespace Go.Proofs.YtnddfdhfefconaaGreatDoor
open Go.RowKit

def qPts : List UInt8 := [112, 111, 105, 110, 116, 115, 32]
def sOk : List UInt8 := [111, 107]
def sNo : List UInt8 := [110, 111]
def sWhat : List UInt8 := [119, 104, 97, 116]
/-- What a line is answered, and the points behind it; G: what the questions answer. -/
def stepL (G : List UInt8 → List Pt → List UInt8) (l : List UInt8) (ps : List Pt) : List UInt8 × List Pt :=
  if Lib.hasPrefix l qPts = true then (if (decL (Lib.trimPrefix l qPts)).2 = true then (sOk, (decL (Lib.trimPrefix l qPts)).1) else (sNo, ps))
  else if (cmdFn l).isSome = true ∧ ps ≠ [] then (G l ps, ps) else (sWhat, ps)
theorem decL_ok (l : List UInt8) (h : (decL l).2 = true) : listOk (decL l).1 = true ∧ (decL l).1 ≠ [] := by
  obtain ⟨h1, h2, h3⟩ := decL_yes h
  exact ⟨h2, h1⟩
theorem stepL_ok {G : List UInt8 → List Pt → List UInt8} {l : List UInt8} {ps : List Pt} (h : ps ≠ [] → listOk ps = true) : (stepL G l ps).2 ≠ [] → listOk (stepL G l ps).2 = true := by
  unfold stepL
  split
  · split
    · rename_i h2
      intro _
      exact (decL_ok _ h2).1
    · exact h
  · split <;> exact h
/-- The session at block sb has these points, in memory of its own from base on. -/
def Sess (w : World) (base sb : Nat) (ps : List Pt) : Prop :=
  ∃ A n c, w.heap[sb]? = some (.cells #[.slice A n c] 46 (0, 0)) ∧ ps.length = n ∧ n ≤ c ∧ c ≤ 9223372036854775807 ∧ PRow w base A ps
theorem Sess.lt {w : World} {base sb : Nat} {ps : List Pt} (h : Sess w base sb ps) : sb < w.heap.size := by
  obtain ⟨A, n, c, h, _⟩ := h
  exact heap_lt h
theorem Sess.below {w W : World} {base sb : Nat} {ps : List Pt} (h : Sess w base sb ps) (hb : Below w.heap.size w W) : Sess W base sb ps := by
  obtain ⟨A, n, c, h1, h2, h3, h4, h5⟩ := h
  exact ⟨A, n, c, (hb.block _ (heap_lt h1)).trans h1, h2, h3, h4, h5.below hb⟩
theorem bel_grown {w W : World} (hb : Below w.heap.size w W) (o : Option Nat) : w.grownBy W o := ⟨hb.os, hb.tape, hb.output, hb.size, fun k hk _ => hb.block k hk⟩
theorem store_grown {w W : World} (hb : Below w.heap.size w W) (sb : Nat) (v : Value) : w.grownBy (W.setCell ⟨sb, 0, none⟩ v) (some sb) :=
  ⟨hb.os, hb.tape, hb.output, by simpa using hb.size, fun k hk hne => (Below.heap_setCell W ⟨sb, 0, none⟩ v k (fun e => hne (by rw [e]))).trans (hb.block k hk)⟩
theorem cmd_enters {l : List UInt8} {k : Nat} (h : cmdFn l = some k) : ∀ args w, (callFunc k args).run Tryz.prog w = .ok (.enter k args) w := by
  unfold cmdFn at h
  split at h
  · injection h with h; subst h; exact enters _ Tryz.func87 (by kernel_rfl) rfl
  split at h
  · injection h with h; subst h; exact enters _ Tryz.func88 (by kernel_rfl) rfl
  split at h
  · injection h with h; subst h; exact enters _ Tryz.func91 (by kernel_rfl) rfl
  split at h
  · injection h with h; subst h; exact enters _ Tryz.func93 (by kernel_rfl) rfl
  split at h
  · injection h with h; subst h; exact enters _ Tryz.func94 (by kernel_rfl) rfl
  split at h
  · injection h with h; subst h; exact enters _ Tryz.func96 (by kernel_rfl) rfl
  split at h
  · injection h with h; subst h; exact enters _ Tryz.func98 (by kernel_rfl) rfl
  split at h
  · injection h with h; subst h; exact enters _ Tryz.func100 (by kernel_rfl) rfl
  · cases h
/-- The questions answer as G says, at this line and these points. -/
def CmdI (G : List UInt8 → List Pt → List UInt8) (l : List UInt8) (ps : List Pt) (w : World) : Prop :=
  ps ≠ [] → ∀ k, cmdFn l = some k → ∀ (A : Option Addr) (n c : Nat) (W : World), Below w.heap.size w W → ps.length = n → n ≤ c → c ≤ 9223372036854775807 → PtsAt W W.heap.size A ps → Plain A n →
    Calls Tryz.prog k #[.slice A n c] W fun e w' => e = .returned (.string (bS (G l ps))) ∧ ∃ x, w' = ext W x
set_option maxRecDepth 20000 in
set_option maxHeartbeats 4000000 in
theorem iAns_any (G : List UInt8 → List Pt → List UInt8) (l : List UInt8) (ps : List Pt) (base sb : Nat) (w : World) (hl : l.length ≤ 1048576) (hS : Sess w base sb ps) (hbase : base ≤ w.heap.size) (hsb : base ≤ sb) (ht : Tab w) (hE : Errs w) (hM : MaxL w) (hC : CmdI G l ps w) :
    Calls Tryz.prog 28 #[.pointer (some ⟨sb, 0, none⟩), .string (bS l)] w fun e w' => e = .returned (.string (bS (stepL G l ps).1)) ∧ Sess w' base sb (stepL G l ps).2 ∧ w.grownBy w' (some sb) := by
  have HS := hide hS
  have CP := hide (fun W => cutp_any l qPts W)
  have lsb := hS.lt
  obtain ⟨A, n, c, hbk, hn, hcap, hcm, hrow⟩ := hS
  have cb := heap_cell hbk 0
  have fb := heap_frozen hbk 0
  simp at cb
  cases hp : Lib.hasPrefix l qPts
  · have e1 : stepL G l ps = if (cmdFn l).isSome = true ∧ ps ≠ [] then (G l ps, ps) else (sWhat, ps) := by unfold stepL; rw [if_neg (by rw [hp]; simp)]
    rw [hp] at CP
    have EQ := hide e1
    clear e1 hp hbk
    have QS := hide (questions_any w)
    cases hc : cmdFn l with
    | none =>
      have e2 : stepL G l ps = (sWhat, ps) := by rw [EQ.out, if_neg (by rw [hc]; simp)]
      rw [e2]
      clear EQ e2 hC hrow
      have LK := hide (fun (W : World) (b : Nat) (h : W.ownsMap Tryz.prog 9 fnR b 8 cmdD) => (look_cmd h l (by omega)).2 hc)
      clear hc
      have SW : Hid ((⟨#[119, 104, 97, 116]⟩ : ByteArray) = bS sWhat) := hide rfl
      generalize bS (Lib.trimPrefix l qPts) = R at *
      generalize bS l = S at *
      go_enter Tryz.func28, Tryz.ntmps28
      go_wp2_with (go_at_call 49; refine (CP.out _).mono ?_; rintro e w1 ⟨rfl, rfl⟩)
      refine QS.out.mono ?_
      rintro e w2 ⟨rfl, hown, hx⟩
      have B2 := hide (ext_bel hx)
      obtain ⟨z, LZ⟩ := LK.out _ _ hown
      clear hx hown LK
      go_wp2_with fail
      go_ret
      exact ⟨by rw [SW.out]; rfl, HS.out.below B2.out, bel_grown B2.out _⟩
    | some k =>
      have LK := hide (fun (W : World) (b : Nat) (h : W.ownsMap Tryz.prog 9 fnR b 8 cmdD) => (look_cmd h l (by omega)).1 k hc)
      have EN := hide (cmd_enters hc)
      by_cases h0 : ps = []
      · have e2 : stepL G l ps = (sWhat, ps) := by rw [EQ.out, if_neg (fun h => h.2 h0)]
        rw [e2]
        have hn0 : n = 0 := by rw [← hn, h0]; rfl
        subst hn0
        clear EQ e2 hC hrow hc h0 EN
        have SW : Hid ((⟨#[119, 104, 97, 116]⟩ : ByteArray) = bS sWhat) := hide rfl
        generalize bS (Lib.trimPrefix l qPts) = R at *
        generalize bS l = S at *
        go_enter Tryz.func28, Tryz.ntmps28
        go_wp2_with (go_at_call 49; refine (CP.out _).mono ?_; rintro e w1 ⟨rfl, rfl⟩)
        refine QS.out.mono ?_
        rintro e w2 ⟨rfl, hown, hx⟩
        have B2 := hide (ext_bel hx)
        have LZ := LK.out _ _ hown
        have cb2 := (B2.out.cell (p := ⟨sb, 0, none⟩) lsb).trans cb
        clear hx hown LK
        go_wp2_with fail
        go_ret
        exact ⟨by rw [SW.out]; rfl, HS.out.below B2.out, bel_grown B2.out _⟩
      · have e2 : stepL G l ps = (G l ps, ps) := by rw [EQ.out, if_pos ⟨by rw [hc]; rfl, h0⟩]
        rw [e2]
        have n0 : 0 < n := by rw [← hn]; exact List.length_pos_iff.2 h0
        obtain ⟨g, m, f, hA, _⟩ := hrow (by omega)
        have PL : Plain A n := by rw [hA]; exact Plain.some
        have CI := hide (fun (W : World) (hb : Below w.heap.size w W) => hC h0 k hc A n c W hb hn hcap hcm (hrow.pts.to hb) PL)
        have d0 : ((n : Int) == 0) = false := by rw [beq_eq_false_iff_ne]; omega
        clear EQ e2 hC hrow hc h0 hA PL
        generalize bS (Lib.trimPrefix l qPts) = R at *
        generalize bS l = S at *
        go_enter Tryz.func28, Tryz.ntmps28
        go_wp2_with (go_at_call 49; refine (CP.out _).mono ?_; rintro e w1 ⟨rfl, rfl⟩)
        refine QS.out.mono ?_
        rintro e w2 ⟨rfl, hown, hx⟩
        have B2 := hide (ext_bel hx)
        have LZ := LK.out _ _ hown
        have cb2 := (B2.out.cell (p := ⟨sb, 0, none⟩) lsb).trans cb
        have eg := EN.out
        clear hx hown LK
        go_wp2_with (go_at_fn k; refine (CI.out _ B2.out).mono ?_; rintro e w3 ⟨rfl, hx3⟩; have B3 := hide (B2.out.trans ((ext_bel hx3).mono B2.out.size)); clear hx3)
        go_ret
        exact ⟨rfl, HS.out.below B3.out, bel_grown B3.out _⟩
  · rw [hp] at CP
    have ID := hide (iDecL_any (Lib.trimPrefix l qPts) w (by unfold Lib.trimPrefix; split <;> (try rw [List.length_drop]) <;> omega) ht hE hM)
    have YS := hide yes_any
    have O1 : Hid ((⟨#[111, 107]⟩ : ByteArray) = bS sOk) := hide rfl
    have O2 : Hid ((⟨#[110, 111]⟩ : ByteArray) = bS sNo) := hide rfl
    cases hd : (decL (Lib.trimPrefix l qPts)).2
    · have e2 : stepL G l ps = (sNo, ps) := by unfold stepL; rw [if_pos hp, if_neg (by rw [hd]; simp)]
      rw [e2]
      rw [hd] at ID
      clear e2 hC hrow hd hp
      generalize (decL (Lib.trimPrefix l qPts)).1 = D at *
      generalize bS (Lib.trimPrefix l qPts) = R at *
      generalize bS l = S at *
      go_enter Tryz.func28, Tryz.ntmps28
      go_wp2_with (go_at_call 49; refine (CP.out _).mono ?_; rintro e w1 ⟨rfl, rfl⟩)
      refine ID.out.mono ?_
      rintro e w2 ⟨A2, n2, c2, rfl, l2, q2, qb2, pr2, hx⟩
      have B2 := hide (ext_bel hx)
      clear hx pr2 l2
      go_wp2_with fail
      refine (YS.out _ _ _ _).mono ?_
      rintro e w3 ⟨rfl, rfl⟩
      go_wp2_with fail
      go_ret
      exact ⟨by simp [O2.out], HS.out.below B2.out, bel_grown B2.out _⟩
    · have e2 : stepL G l ps = (sOk, (decL (Lib.trimPrefix l qPts)).1) := by unfold stepL; rw [if_pos hp, if_pos hd]
      rw [e2]
      rw [hd] at ID
      clear e2 hC hrow hd hp HS
      generalize (decL (Lib.trimPrefix l qPts)).1 = D at *
      generalize bS (Lib.trimPrefix l qPts) = R at *
      generalize bS l = S at *
      go_enter Tryz.func28, Tryz.ntmps28
      go_wp2_with (go_at_call 49; refine (CP.out _).mono ?_; rintro e w1 ⟨rfl, rfl⟩)
      refine ID.out.mono ?_
      rintro e w2 ⟨A2, n2, c2, rfl, l2, q2, qb2, pr2, hx⟩
      have B2 := hide (ext_bel hx)
      have cb2 := (B2.out.cell (p := ⟨sb, 0, none⟩) lsb).trans cb
      have fb2 := (B2.out.frozen (p := ⟨sb, 0, none⟩) lsb).trans fb
      have hb2 := hide ((B2.out.block sb lsb).trans hbk)
      have P2 := hide pr2
      have L2 := hide l2
      have zw := B2.out.size
      clear hx pr2 l2
      go_wp2_with fail
      refine (YS.out _ _ _ _).mono ?_
      rintro e w3 ⟨rfl, rfl⟩
      go_wp2_with fail
      go_ret
      refine ⟨by simp [O1.out], ⟨A2, n2, c2, cell_set1 hb2.out _, L2.out, q2, qb2, ?_⟩, store_grown B2.out sb _⟩
      intro h0
      obtain ⟨g, m, f, hA, hg, hm, hr, hf⟩ := P2.out h0
      exact ⟨g, m, f, hA, by omega, hm, hr.far (show g ≠ sb by omega) _, hf⟩
end Go.Proofs.YtnddfdhfefconaaGreatDoor
namespace Go.Proofs.YtnddfdhfefconaaGreatDoor
open Go.RowKit

/-- The points behind the first k lines. -/
def stN (G : List UInt8 → List Pt → List UInt8) (ls : List (List UInt8)) : Nat → List Pt
  | 0 => []
  | k + 1 => (stepL G (gstr ls k) (stN G ls k)).2
/-- What the first k lines print. -/
def ouN (G : List UInt8 → List Pt → List UInt8) (ls : List (List UInt8)) : Nat → List UInt8
  | 0 => []
  | k + 1 => (ouN G ls k ++ (stepL G (gstr ls k) (stN G ls k)).1) ++ [10]
def runL (G : List UInt8 → List Pt → List UInt8) (ls : List (List UInt8)) : List UInt8 := ouN G ls (min ls.length 30)
theorem stN_ok (G : List UInt8 → List Pt → List UInt8) (ls : List (List UInt8)) : ∀ k, stN G ls k ≠ [] → listOk (stN G ls k) = true
  | 0 => fun h => absurd rfl h
  | k + 1 => stepL_ok (stN_ok G ls k)
def Short (G : List UInt8 → List Pt → List UInt8) : Prop := ∀ l ps, ps ≠ [] → listOk ps = true → (G l ps).length ≤ 100000
theorem step_len {G : List UInt8 → List Pt → List UInt8} (h : Short G) (l : List UInt8) (ps : List Pt) (hok : ps ≠ [] → listOk ps = true) : (stepL G l ps).1.length ≤ 100000 := by
  unfold stepL
  split
  · split <;> simp [sOk, sNo]
  · split
    · rename_i hh
      exact h l ps hh.2 (hok hh.2)
    · simp [sWhat]
theorem ouN_len {G : List UInt8 → List Pt → List UInt8} (h : Short G) (ls : List (List UInt8)) : ∀ k, (ouN G ls k).length ≤ 100001 * k
  | 0 => by simp [ouN]
  | k + 1 => by
    have ih := ouN_len h ls k
    have := step_len h (gstr ls k) (stN G ls k) (stN_ok G ls k)
    rw [ouN, List.length_append, List.length_append]
    simp
    omega
theorem Bld.kept {B b : Nat} {l : List UInt8} {w w' : World} {sb : Nat} (h : Bld B b l w) (hg : w.grownBy w' (some sb)) (hsb : sb < B) : Bld B b l w' := by
  have key : ∀ p, Lib.BuilderAtF 49 5 B b p (Lib.byteCells l) w → Lib.BuilderAtF 49 5 B b p (Lib.byteCells l) w' := fun p ⟨hB, v, hb, hown, hne⟩ => by
    refine ⟨hB, v, (hg.block b (heap_lt hb) (by intro e; injection e with e; omega)).trans hb, hown.kept hg ?_, hne⟩
    refine .inr fun e => ?_
    have := (hown.lt sb e).1
    omega
  rcases h with h | h
  · exact .inl (key _ h)
  · exact .inr (key _ h)
theorem Bld.fresh {B b : Nat} {w : World} (hB : B ≤ b) (h : w.heap[b]? = some (.cells #[.pointer none, .slice none 0 0] 49 (0, 0))) : Bld B b [] w :=
  .inl ⟨hB, _, h, World.ownsRowF_nil _ _ _ _, by simp [Value.ownBlock]⟩
theorem Bld.lt {B b : Nat} {l : List UInt8} {w : World} (h : Bld B b l w) : b < w.heap.size := by
  rcases h with ⟨_, _, h, _⟩ | ⟨_, _, h, _⟩ <;> exact heap_lt h
theorem Sess.others {w w' : World} {base sb B b : Nat} {l : List UInt8} {ps : List Pt} (h : Sess w base sb ps) (hb : Below B w w') (hsb : sb < B) (hk : Lib.OthersKept 5 (some b) w w') (hl : Bld B b l w) : Sess w' base sb ps := by
  obtain ⟨A, n, c, h1, h2, h3, h4, h5⟩ := h
  refine ⟨A, n, c, (hb.block sb hsb).trans h1, h2, h3, h4, fun h0 => ?_⟩
  obtain ⟨g, m, f, hA, hg, hm, ⟨cs, hc, hs, hf⟩, hff⟩ := h5 h0
  refine ⟨g, m, f, hA, hg, hm, ⟨cs, ?_, hs, hf⟩, hff⟩
  refine hk g _ hc ?_ (fun c fz e => by injection e with _ e _; cases e)
  intro e
  injection e with e
  subst e
  rcases hl with ⟨_, v, hh, _⟩ | ⟨_, v, hh, _⟩ <;> (rw [hc] at hh; simp at hh)
set_option maxRecDepth 20000 in
set_option maxHeartbeats 4000000 in
theorem iRun_any (G : List UInt8 → List Pt → List UInt8) (hG : Short G) (ls : List (List UInt8)) (A : Option Addr) (n c : Nat) (w : World) (hn : ls.length = n) (hcap : n ≤ c) (hcm : c ≤ 9223372036854775807) (hl : ∀ l ∈ ls, l.length ≤ 1048576) (hs : StrsAt w w.heap.size A ls) (ht : Tab w) (hE : Errs w) (hM : MaxL w)
    (hC : ∀ k, k < min n 30 → CmdI G (gstr ls k) (stN G ls k) w) :
    Calls Tryz.prog 11 #[.slice A n c] w fun e w' => e = .returned (.string (bS (runL G ls))) ∧ Below w.heap.size w w' := by
  obtain ⟨m, hm⟩ : ∃ m, m = min n 30 := ⟨_, rfl⟩
  have hm1 : m ≤ n := by omega
  have hm2 : m ≤ 30 := by omega
  have eM : min (n : Int) 30 = (m : Int) := by omega
  have RES : Hid (runL G ls = ouN G ls m) := hide (by unfold runL; rw [hn, hm])
  rw [RES.out]
  have CELL : Hid (∀ k, k < m → ∃ b o, A = some ⟨b, o, none⟩ ∧ b < w.heap.size ∧ w.cell? ⟨b, o + k, none⟩ = some (.string (bS (gstr ls k)))) := hide (fun k hk => by
    obtain ⟨b, o, hA, hb, hc⟩ := hs (by omega)
    exact ⟨b, o, hA, hb, hc k (by omega)⟩)
  have LEN : Hid (∀ k, k < m → (gstr ls k).length ≤ 1048576) := hide (fun k hk => hl _ (gstr_mem (by omega)))
  have CM := hide (fun k (hk : k < m) => hC k (by omega))
  have AN := hide (fun (k : Nat) (hk : k < m) (sb : Nat) (W : World) (hb : Below w.heap.size w W) (hS : Sess W w.heap.size sb (stN G ls k)) (hsb : w.heap.size ≤ sb) =>
    iAns_any G (gstr ls k) (stN G ls k) w.heap.size sb W (LEN.out k hk) hS hb.size hsb (ht.to hb) (hE.to hb) (hM.to hb) (fun h0 k' hk' A' n' c' W' hb' h1 h2 h3 h4 h5 => CM.out k hk h0 k' hk' A' n' c' W' (hb.trans (hb'.mono hb.size)) h1 h2 h3 h4 h5))
  have OL := hide (fun k => ouN_len hG ls k)
  have SL := hide (fun k => step_len hG (gstr ls k) (stN G ls k) (stN_ok G ls k))
  have NX : Hid (∀ k, ouN G ls (k + 1) = (ouN G ls k ++ (stepL G (gstr ls k) (stN G ls k)).1) ++ [10] ∧ stN G ls (k + 1) = (stepL G (gstr ls k) (stN G ls k)).2) := hide (fun k => ⟨rfl, rfl⟩)
  have WS := hide wstr_any
  have WB := hide wbyte_any
  have BT := hide bstr_any
  have H0 : Hid (∀ W : World, W = (w.alloc (.cells #[.slice none 0 0] 46)).alloc (.cells #[.pointer none, .slice none 0 0] 49) → W.heap.size = w.heap.size + 2 ∧ Below w.heap.size w W ∧ Sess W w.heap.size w.heap.size (stN G ls 0) ∧ Bld (w.heap.size + 1) (w.heap.size + 1) (ouN G ls 0) W) := hide (fun W hW => by
    subst hW
    refine ⟨by simp, (by (repeat' (first | (with_reducible first | exact Below.refl _ _ | assumption | refine below_ext _ ?_ ?_ | refine Below.alloc ?_ ?_ _ | refine Below.drew ?_ | refine below_drewN ?_ _ | refine le_drewN _ ?_ | refine Below.setCell ?_ ?_ _ | exact Nat.le_refl _ | refine le_ext _ ?_ | refine le_alloc _ ?_ | refine le_setCell _ _ ?_ | refine le_drew ?_) | omega | (simp; done) | (simp; omega)))), ⟨none, 0, 0, (Below.heap_alloc _ _ _ (by simp)).trans (heap_alloc_new _ _), rfl, Nat.le_refl _, by omega, PRow.nil _ _ _⟩, Bld.fresh (Nat.le_refl _) ?_⟩
    have := heap_alloc_new (w.alloc (.cells #[.slice none 0 0] 46)) (.cells #[.pointer none, .slice none 0 0] 49)
    rw [size_alloc] at this
    exact this)
  clear hn hl hs ht hE hM hC hm RES
  go_enter Tryz.func11, Tryz.ntmps11
  go_wp2_with fail
  obtain ⟨W0, hW0⟩ : ∃ W0, W0 = (w.alloc (.cells #[.slice none 0 0] 46)).alloc (.cells #[.pointer none, .slice none 0 0] 49) := ⟨_, rfl⟩
  rw [← hW0]
  obtain ⟨z0, B0, S0, L0⟩ := H0.out W0 hW0
  have S0H := hide S0
  have L0H := hide L0
  clear hW0 H0 S0 L0
  have sbw : w.heap.size < W0.heap.size := by omega
  go_loopw [15] (fun u15 wr => ∃ k : Nat, k ≤ m ∧ u15 = .int .i64 k ∧ Hid (Sess wr w.heap.size w.heap.size (stN G ls k)) ∧ Hid (Bld (w.heap.size + 1) (w.heap.size + 1) (ouN G ls k) wr) ∧ Below w.heap.size w wr) (fun u15 _ => m - (intOf u15).toNat)
  case atStart => exact ⟨0, Nat.zero_le _, rfl, S0H, L0H, B0⟩
  case round =>
    obtain ⟨k, hk, rfl, hS, hL, hbel⟩ := hrel
    have hlb := hL.out.lt
    by_cases hlt : k < m
    · obtain ⟨b1, o1, rfl, hb1, hc1⟩ := CELL.out k hlt
      have hx := (hbel.cell (p := ⟨b1, o1 + k, none⟩) hb1).trans hc1
      have AK := hide (AN.out k hlt w.heap.size wr hbel hS.out (Nat.le_refl _))
      obtain ⟨nx1, nx2⟩ := NX.out k
      have NX1 := hide nx1
      have NX2 := hide nx2
      have ol := OL.out k
      have sl := SL.out k
      have z1 := hbel.size
      have HBL := hide hbel
      clear hc1 nx1 nx2 AN NX OL SL CM LEN CELL
      generalize gstr ls k = l at *
      generalize hst : stepL G l (stN G ls k) = st at *
      clear hst
      obtain ⟨o, ps'⟩ := st
      simp only at AK NX1 NX2 sl
      go_wp2_with fail
      refine AK.out.mono ?_
      rintro e w2 ⟨rfl, hS2, hg2⟩
      have L2 := hide (hL.out.kept hg2 (Nat.lt_succ_self _))
      have S2 := hide hS2
      have z2 := hg2.size
      have B2 := hide (Below.grown HBL.out hg2 HBL.out.size (fun j hj => by cases hj; exact Nat.le_refl _))
      clear hS2 hg2
      go_wp2_with fail
      refine (WS.out (w.heap.size + 1) (w.heap.size + 1) _ o w2 L2.out (by omega) (by omega)).mono ?_
      rintro e w3 ⟨rfl, hL3, hb3, hk3⟩
      have S3 := hide (S2.out.others hb3 (Nat.lt_succ_self _) hk3 L2.out)
      have L3 := hide hL3
      have z3 := hb3.size
      have B3 := hide (B2.out.trans (hb3.mono (Nat.le_succ _)))
      clear hL3 hb3 hk3
      go_wp2_with fail
      refine (WB.out (w.heap.size + 1) (w.heap.size + 1) _ w3 L3.out (by rw [List.length_append]; omega) (by omega)).mono ?_
      rintro e w4 ⟨rfl, hL4, hb4, hk4⟩
      have S4 := hide (S3.out.others hb4 (Nat.lt_succ_self _) hk4 L3.out)
      have L4 := hide hL4
      have B4 := hide (B3.out.trans (hb4.mono (Nat.le_succ _)))
      clear hL4 hb4 hk4
      go_wp2_with fail
      exact ⟨⟨k + 1, by omega, by go_num, hide (by rw [NX2.out]; exact S4.out), hide (by rw [NX1.out]; exact L4.out), B4.out⟩, by simp [intOf]; omega⟩
    · obtain rfl : k = m := by omega
      have z1 := hbel.size
      have BK := hide (BT.out (w.heap.size + 1) (w.heap.size + 1) _ wr hL.out (by omega))
      clear AN NX OL SL CM LEN CELL hS
      go_wp2_with fail
      refine BK.out.mono ?_
      rintro e w5 ⟨rfl, hb5⟩
      have B5 := hide (hbel.trans (hb5.mono (Nat.le_succ _)))
      clear hb5
      go_wp2_with fail
      go_ret
      exact ⟨rfl, B5.out⟩
end Go.Proofs.YtnddfdhfefconaaGreatDoor
