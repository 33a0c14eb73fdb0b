
/- Rows of strings; the reference's split and parseInt. -/
/- Texts of points, plain: what both EncodePoints and both DecodePoints compute. -/
import Derived.Test.YtnddfdhfefconaaGreatDoorNum
import Derived.Test.YtnddfdhfefconaaGreatDoorApp
import Derived.Test.YtnddfdhfefconaaGreatDoorFunc
import Derived.Lib.Join
set_option linter.unusedVariables false
set_option linter.unusedSimpArgs false
namespace Go.Proofs.YtnddfdhfefconaaGreatDoor
open Go.RowKit

/-! ### pieces, plain -/
def splN (l : List UInt8) (c : UInt8) : Nat → List (List UInt8)
  | 0 => [l]
  | n + 1 => @ite _ ((Lib.cut l [c]).2.2 = true) _ ((Lib.cut l [c]).1 :: splN (Lib.cut l [c]).2.1 c n) [l]
theorem splN_no {l : List UInt8} {c : UInt8} (h : c ∉ l) (n : Nat) : splN l c n = [l] := by
  cases n with
  | zero => rfl
  | succ n => unfold splN; rw [cut_no h]; rfl
theorem splN_at {a b : List UInt8} {c : UInt8} (h : c ∉ a) (n : Nat) : splN (a ++ c :: b) c (n + 1) = a :: splN b c n := by
  rw [splN, cut_at h]; rfl
theorem splN_ne (l : List UInt8) (c : UInt8) (n : Nat) : 0 < (splN l c n).length := by
  cases n with
  | zero => simp [splN]
  | succ n => unfold splN; split <;> simp
theorem splN_len (l : List UInt8) (c : UInt8) : ∀ n, (splN l c n).length ≤ n + 1
  | 0 => by simp [splN]
  | n + 1 => by
    unfold splN
    split
    · have := splN_len (Lib.cut l [c]).2.1 c n; simp; omega
    · simp
theorem splN_mem (l : List UInt8) (c : UInt8) : ∀ n, ∀ x ∈ splN l c n, x.length ≤ l.length := by
  intro n
  induction n generalizing l with
  | zero => intro x hx; simp [splN] at hx; rw [hx]; exact Nat.le_refl _
  | succ n ih =>
    intro x hx
    rcases split_at l c with h | ⟨a, b, rfl, ha⟩
    · rw [splN_no h] at hx
      rw [List.mem_singleton.1 hx]; exact Nat.le_refl _
    · rw [splN_at ha] at hx
      rcases List.mem_cons.1 hx with rfl | hx
      · simp
      · have := ih b x hx
        simp; omega
def gstr (ss : List (List UInt8)) (i : Nat) : List UInt8 := ss.getD i []
theorem gstr_lt {ss : List (List UInt8)} {i : Nat} (h : i < ss.length) : gstr ss i = ss[i] := by unfold gstr; rw [List.getD_eq_getElem?_getD, List.getElem?_eq_getElem h]; rfl
theorem gstr_mem {ss : List (List UInt8)} {i : Nat} (h : i < ss.length) : gstr ss i ∈ ss := by rw [gstr_lt h]; exact List.getElem_mem h
/-- The loop's step. -/
theorem spl_step {l : List UInt8} {c : UInt8} {from_ i n : Nat} (hfi : from_ ≤ i) (hi : i < l.length) (hc : c ∉ (l.drop from_).take (i - from_)) (h : l.getD i 0 = c) : splN (l.drop from_) c (n + 1) = (l.drop from_).take (i - from_) :: splN (l.drop (i + 1)) c n := by
  have e : l.drop from_ = (l.drop from_).take (i - from_) ++ c :: l.drop (i + 1) := by
    conv => lhs; rw [← List.take_append_drop (i - from_) (l.drop from_)]
    rw [List.drop_drop, show from_ + (i - from_) = i by omega, List.drop_eq_getElem_cons hi]
    congr 2
    rw [← h, List.getD_eq_getElem?_getD, List.getElem?_eq_getElem hi]; rfl
  generalize hA : (l.drop from_).take (i - from_) = A at *
  rw [e]
  exact splN_at hc n
theorem not_mem_step {l : List UInt8} {c : UInt8} {from_ i : Nat} (hfi : from_ ≤ i) (hi : i < l.length) (hc : c ∉ (l.drop from_).take (i - from_)) (h : l.getD i 0 ≠ c) : c ∉ (l.drop from_).take (i + 1 - from_) := by
  rw [show i + 1 - from_ = (i - from_) + 1 by omega, List.take_add_one, List.mem_append]
  rintro (hh | hh)
  · exact hc hh
  · rw [List.getElem?_drop, show from_ + (i - from_) = i by omega, List.getElem?_eq_getElem hi] at hh
    simp at hh
    exact h (by rw [hh, List.getD_eq_getElem?_getD, List.getElem?_eq_getElem hi]; rfl)
theorem spl_end {l : List UInt8} {c : UInt8} {from_ i : Nat} (hc : c ∉ (l.drop from_).take (i - from_)) (hi : l.length ≤ i) (n : Nat) : splN (l.drop from_) c n = [l.drop from_] := by
  refine splN_no ?_ n
  rwa [List.take_of_length_le (by rw [List.length_drop]; omega)] at hc

/-! ### rows of strings -/
def strVals (ss : List (List UInt8)) : List Value := ss.map fun l => .string (bS l)
/-- The slice at A reads as these strings, all of it below block B. -/
def StrsAt (w : World) (B : Nat) (A : Option Addr) (ss : List (List UInt8)) : Prop :=
  0 < ss.length → ∃ b o, A = some ⟨b, o, none⟩ ∧ b < B ∧ ∀ i, i < ss.length → w.cell? ⟨b, o + i, none⟩ = some (.string (bS (gstr ss i)))
theorem StrsAt.below {w w' : World} {B : Nat} {A : Option Addr} {ss : List (List UInt8)} (h : StrsAt w B A ss) (hb : Below B w w') : StrsAt w' B A ss := fun hn => by
  obtain ⟨b, o, hA, hB, hc⟩ := h hn
  exact ⟨b, o, hA, hB, fun i hi => (hb.cell (p := ⟨b, o + i, none⟩) hB).trans (hc i hi)⟩
theorem StrsAt.more {w : World} {B B' : Nat} {A : Option Addr} {ss : List (List UInt8)} (h : StrsAt w B A ss) (hB : B ≤ B') : StrsAt w B' A ss := fun hn => by
  obtain ⟨b, o, hA, hb, hc⟩ := h hn
  exact ⟨b, o, hA, by omega, hc⟩
theorem StrsAt.to {w W : World} {A : Option Addr} {ss : List (List UInt8)} (h : StrsAt w w.heap.size A ss) (hb : Below w.heap.size w W) : StrsAt W W.heap.size A ss := (h.below hb).more hb.size
theorem strElt : Elt 27 9 1 16 (.string ByteArray.empty) := ⟨Tryz.underlying27, by kernel_rfl, rfl, by decide⟩
/-- The slice v is a row of strings of the call's own, at block base or later. -/
def OwnS (w : World) (base : Nat) (v : Value) (ss : List (List UInt8)) : Prop := w.ownsRow base 9 1 v ss.length (strVals ss)
theorem OwnS.below {w W : World} {base : Nat} {v : Value} {ss : List (List UInt8)} (h : OwnS w base v ss) (hb : Below w.heap.size w W) : OwnS W base v ss := own_below h hb
theorem OwnS.base {w : World} {base base' : Nat} {v : Value} {ss : List (List UInt8)} (h : OwnS w base v ss) (hb : base' ≤ base) : OwnS w base' v ss := own_base h hb
theorem OwnS.lt {w : World} {base : Nat} {v : Value} {ss : List (List UInt8)} (h : OwnS w base v ss) : ∀ k, v.ownBlock = some k → base ≤ k := fun k hk => (World.ownsRow.lt h k hk).1
theorem OwnS.empty (w : World) (base : Nat) (hb : base ≤ w.heap.size) : OwnS (w.alloc (.cells #[] 9)) base (.slice (some ⟨w.heap.size, 0, none⟩) 0 0) [] :=
  ⟨rfl, .inr ⟨w.heap.size, 0, #[], rfl, hb, heap_alloc_new w _, Nat.le_refl _, by simp [maxLen], rfl, rfl⟩⟩
theorem OwnS.slice {w : World} {base : Nat} {v : Value} {ss : List (List UInt8)} (h : OwnS w base v ss) : ∃ A n c, v = .slice A n c := by
  unfold OwnS at h
  rcases h.2 with ⟨hv, _⟩ | ⟨g, cap, cur, hv, _⟩
  · exact ⟨_, _, _, hv⟩
  · exact ⟨_, _, _, hv⟩
theorem OwnS.strs {w : World} {base : Nat} {A : Option Addr} {n c : Nat} {ss : List (List UInt8)} (h : OwnS w base (.slice A n c) ss) : ss.length = n ∧ n ≤ c ∧ c ≤ maxLen ∧ StrsAt w w.heap.size A ss := by
  unfold OwnS at h
  rcases h.2 with ⟨hv, h0⟩ | ⟨g, cap, cur, hv, hg, hgg, hnc, hcm, hsz, htk⟩
  · injection hv with h1 h2 h3
    subst h1 h2 h3
    exact ⟨h0, Nat.le_refl _, by simp [maxLen], fun hn => by omega⟩
  · injection hv with h1 h2 h3
    subst h1 h2 h3
    refine ⟨rfl, hnc, hcm, fun _ => ⟨g, 0, rfl, (Array.getElem?_eq_some_iff.1 hgg).1, fun i hi => ?_⟩⟩
    have hv : (strVals ss)[i]? = some (.string (bS (gstr ss i))) := by unfold strVals; rw [List.getElem?_map, List.getElem?_eq_getElem hi, gstr_lt hi]; rfl
    rw [← htk, List.getElem?_take, if_pos (by omega)] at hv
    simp [World.cell?, hgg, ← Array.getElem?_toList, hv]
/-- append(v, x), x stored in the block that was laid last. -/
theorem app_str {ops : Array Oper} {rest : List Oper} {o : Oper} {a : Act} {Q : Exit → Act → World → Prop} {w : World} (hgd : o.guard = none) (s x : Operand)
    (ho : o.op = .call { callee := .builtin .append, args := #[s, x], argTypes := #[27, 27] })
    (base : Nat) (v : Value) (ss : List (List UInt8)) (hs : a.eval s = v) (hown : OwnS w base v ss) (y : List UInt8) (b c : Nat) (hx : a.eval x = .slice (some ⟨b, 0, none⟩) 1 c) (hc : w.cell? ⟨b, 0, none⟩ = some (.string (bS y)))
    (hlen : ss.length ≤ 2000000) (hbase : base ≤ w.heap.size)
    (h : ∀ v' w', OwnS w' base v' (ss ++ [y]) → Below base w w' → (v'.ownBlock = v.ownBlock ∨ v'.ownBlock = some w.heap.size) → w.grownBy w' v.ownBlock → wpList Tryz.prog ops Q rest (a.put o.dst v') w') :
    wpList Tryz.prog ops Q (o :: rest) a w :=
  wpList_plain hgd fun K hK => app_wp strElt s x ho base v ss.length _ hs hown (some ⟨b, 0, none⟩) 1 c [.string (bS y)] hx rfl (fun _ => ⟨b, 0, rfl, fun j u hj => by
      cases j with
      | zero => simp at hj; subst hj; exact hc
      | succ j => simp at hj⟩) (fun h => by cases h) (fun _ _ _ e => by injection e with e; injection e with _ _ e; exact e.symm) (fun u hu => by simp at hu; subst hu; rfl) (by unfold maxLen; omega) (by omega) hbase fun v' w' h2 h3 h4 =>
    hK _ _ (h v' w' (by unfold OwnS strVals; rw [List.length_append, List.map_append]; exact h2) ((Below.refl _ _).grown h3 hbase hown.lt) h4 h3)
theorem bS_get {l : List UInt8} {i : Nat} (h : i < l.length) : (bS l).data[i]? = some (l.getD i 0) := by
  simp [bS, List.getD_eq_getElem?_getD, h]
theorem bS_ext (l : List UInt8) (a b : Nat) : (bS l).extract a b = bS ((l.drop a).take (b - a)) := by
  rw [Lib.extract_eq, bS_list]; rfl
set_option maxRecDepth 20000 in
set_option maxHeartbeats 2000000 in
theorem split_any (l : List UInt8) (c : UInt8) (n : Nat) (w : World) (hl : l.length ≤ 2000000) (hn : n ≤ 1000000) :
    Calls Tryz.prog 32 #[.string (bS l), .int .u8 (c.toNat : Nat), .int .i64 n] w fun e w' => ∃ v, e = .returned v ∧ OwnS w' w.heap.size v (splN l c n) ∧ ∃ x, w' = ext w x := by
  have SZ := bS_size l
  go_enter Tryz.func32, Tryz.ntmps32
  go_wp2
  go_loopw [7, 8, 9] (fun u7 u8 u9 wr => ∃ (i f : Nat) (ss : List (List UInt8)), f ≤ i ∧ i ≤ l.length ∧ ss.length ≤ n ∧ u8 = .int .i64 f ∧ u9 = .int .i64 i ∧ Hid (c ∉ (l.drop f).take (i - f)) ∧ Hid (ss ++ splN (l.drop f) c (n - ss.length) = splN l c n) ∧ OwnS wr w.heap.size u7 ss ∧ Below w.heap.size w wr) (fun _ _ u9 _ => l.length - (intOf u9).toNat)
  case atStart => exact ⟨0, 0, [], Nat.le_refl _, Nat.zero_le _, Nat.zero_le _, by go_num, by go_num, hide (by simp), hide rfl, OwnS.empty _ _ (Nat.le_refl _), (by (repeat' (first | (with_reducible first | exact Below.refl _ _ | assumption | refine below_ext _ ?_ ?_ | refine Below.alloc ?_ ?_ _ | refine Below.drew ?_ | refine below_drewN ?_ _ | refine le_drewN _ ?_ | refine Below.setCell ?_ ?_ _ | exact Nat.le_refl _ | refine le_ext _ ?_ | refine le_alloc _ ?_ | refine le_setCell _ _ ?_ | refine le_drew ?_) | omega | (simp; done) | (simp; omega))))⟩
  case round =>
    obtain ⟨i, f, ss, hfi, hil, hsn, rfl, rfl, HC, HS, hown, hbel⟩ := hrel
    obtain ⟨A1, n1, c1, rfl⟩ := hown.slice
    have hsz := hbel.size
    have OWN := hide hown
    have hn1 := hown.strs.1
    clear hown
    have hsl : ss.length ≤ 2000000 := by omega
    by_cases hlt : i < l.length
    · by_cases hk : ss.length < n
      · have hi' : i < (bS l).size := by omega
        have GI : (bS l)[i] = l.getD i 0 := by
          have := bS_get hlt
          rw [Array.getElem?_eq_getElem (show i < (bS l).data.size from hi')] at this
          injection this
        by_cases hb : l.getD i 0 = c
        · have d1 : (((bS l)[i].toNat : Int) == (c.toNat : Int)) = true := by rw [GI, hb]; simp
          have EX := bS_ext l f i
          have ST := hide (spl_step (n := n - ss.length - 1) hfi hlt HC.out hb)
          have HN : Hid (ss ++ [(l.drop f).take (i - f)] ++ splN (l.drop (i + 1)) c (n - (ss ++ [(l.drop f).take (i - f)]).length) = splN l c n) := hide (by
            rw [← HS.out, show n - ss.length = n - ss.length - 1 + 1 by omega, ST.out, List.append_assoc, List.length_append]
            rw [show n - (ss.length + [List.take (i - f) (List.drop f l)].length) = n - ss.length - 1 by simp; omega]; rfl)
          have hk1 : n1 < n := by omega
          clear GI hb HS HC ST
          generalize (l.drop f).take (i - f) = y at *
          go_wp2_with (at_builtin; refine app_str rfl _ _ rfl w.heap.size (.slice A1 n1 c1) ss rfl (OWN.out.below (by (repeat' (first | (with_reducible first | exact Below.refl _ _ | assumption | refine below_ext _ ?_ ?_ | refine Below.alloc ?_ ?_ _ | refine Below.drew ?_ | refine below_drewN ?_ _ | refine le_drewN _ ?_ | refine Below.setCell ?_ ?_ _ | exact Nat.le_refl _ | refine le_ext _ ?_ | refine le_alloc _ ?_ | refine le_setCell _ _ ?_ | refine le_drew ?_) | omega | (simp; done) | (simp; omega))))) y _ _ rfl (by simp [go_sem]) hsl (by simp; omega) ?_; intro v' w' hown' hb' hat hgr; obtain ⟨A', n', c', rfl⟩ := hown'.slice; have OWN' := hide hown'; clear hown' hat hgr)
          exact ⟨⟨i + 1, i + 1, ss ++ [y], by omega, by omega, by simp; omega, by go_num, by go_num, hide (by simp), HN, OWN'.out, Below.trans (Below.trans hbel (by (repeat' (first | (with_reducible first | exact Below.refl _ _ | assumption | refine below_ext _ ?_ ?_ | refine Below.alloc ?_ ?_ _ | refine Below.drew ?_ | refine below_drewN ?_ _ | refine le_drewN _ ?_ | refine Below.setCell ?_ ?_ _ | exact Nat.le_refl _ | refine le_ext _ ?_ | refine le_alloc _ ?_ | refine le_setCell _ _ ?_ | refine le_drew ?_) | omega | (simp; done) | (simp; omega))))) hb'⟩, by simp [intOf]; omega⟩
        · have d1 : (((bS l)[i].toNat : Int) == (c.toNat : Int)) = false := by
            rw [GI, beq_eq_false_iff_ne]
            intro e
            exact hb (UInt8.toNat_inj.1 (by omega))
          have HC' := hide (not_mem_step hfi hlt HC.out hb)
          have hk1 : n1 < n := by omega
          clear GI hb
          go_wp2_with fail
          exact ⟨⟨i + 1, f, ss, by omega, by omega, by omega, by go_num, by go_num, HC', HS, OWN.out, hbel⟩, by simp [intOf]; omega⟩
      · have e0 : n - ss.length = 0 := by omega
        have EX := bS_ext l f l.length
        have HN : Hid (ss ++ [(l.drop f).take (l.length - f)] = splN l c n) := hide (by rw [← HS.out, e0]; show _ = ss ++ [l.drop f]; rw [List.take_of_length_le (by rw [List.length_drop]; exact Nat.le_refl _)])
        have hk1 : ¬ n1 < n := by omega
        clear e0 HS HC
        generalize (l.drop f).take (l.length - f) = y at *
        go_wp2_with (at_builtin; refine app_str rfl _ _ rfl w.heap.size (.slice A1 n1 c1) ss rfl (OWN.out.below (by (repeat' (first | (with_reducible first | exact Below.refl _ _ | assumption | refine below_ext _ ?_ ?_ | refine Below.alloc ?_ ?_ _ | refine Below.drew ?_ | refine below_drewN ?_ _ | refine le_drewN _ ?_ | refine Below.setCell ?_ ?_ _ | exact Nat.le_refl _ | refine le_ext _ ?_ | refine le_alloc _ ?_ | refine le_setCell _ _ ?_ | refine le_drew ?_) | omega | (simp; done) | (simp; omega))))) y _ _ rfl (by simp [go_sem]) hsl (by simp; omega) ?_; intro v' w' hown' hb' hat hgr; obtain ⟨A', n', c', rfl⟩ := hown'.slice; have OWN' := hide hown'; clear hown' hat hgr)
        go_ret
        exact ⟨_, rfl, by rw [← HN.out]; exact OWN'.out, ext_mk (Below.trans (Below.trans hbel (by (repeat' (first | (with_reducible first | exact Below.refl _ _ | assumption | refine below_ext _ ?_ ?_ | refine Below.alloc ?_ ?_ _ | refine Below.drew ?_ | refine below_drewN ?_ _ | refine le_drewN _ ?_ | refine Below.setCell ?_ ?_ _ | exact Nat.le_refl _ | refine le_ext _ ?_ | refine le_alloc _ ?_ | refine le_setCell _ _ ?_ | refine le_drew ?_) | omega | (simp; done) | (simp; omega))))) hb')⟩
    · have ei : i = l.length := by omega
      have EX := bS_ext l f l.length
      have HN : Hid (ss ++ [(l.drop f).take (l.length - f)] = splN l c n) := hide (by rw [← HS.out, spl_end HC.out (by omega), List.take_of_length_le (by rw [List.length_drop]; exact Nat.le_refl _)])
      clear HS HC
      subst ei
      generalize (l.drop f).take (l.length - f) = y at *
      go_wp2_with (at_builtin; refine app_str rfl _ _ rfl w.heap.size (.slice A1 n1 c1) ss rfl (OWN.out.below (by (repeat' (first | (with_reducible first | exact Below.refl _ _ | assumption | refine below_ext _ ?_ ?_ | refine Below.alloc ?_ ?_ _ | refine Below.drew ?_ | refine below_drewN ?_ _ | refine le_drewN _ ?_ | refine Below.setCell ?_ ?_ _ | exact Nat.le_refl _ | refine le_ext _ ?_ | refine le_alloc _ ?_ | refine le_setCell _ _ ?_ | refine le_drew ?_) | omega | (simp; done) | (simp; omega))))) y _ _ rfl (by simp [go_sem]) hsl (by simp; omega) ?_; intro v' w' hown' hb' hat hgr; obtain ⟨A', n', c', rfl⟩ := hown'.slice; have OWN' := hide hown'; clear hown' hat hgr)
      go_ret
      exact ⟨_, rfl, by rw [← HN.out]; exact OWN'.out, ext_mk (Below.trans (Below.trans hbel (by (repeat' (first | (with_reducible first | exact Below.refl _ _ | assumption | refine below_ext _ ?_ ?_ | refine Below.alloc ?_ ?_ _ | refine Below.drew ?_ | refine below_drewN ?_ _ | refine le_drewN _ ?_ | refine Below.setCell ?_ ?_ _ | exact Nat.le_refl _ | refine le_ext _ ?_ | refine le_alloc _ ?_ | refine le_setCell _ _ ?_ | refine le_drew ?_) | omega | (simp; done) | (simp; omega))))) hb')⟩
end Go.Proofs.YtnddfdhfefconaaGreatDoor
namespace Go.Proofs.YtnddfdhfefconaaGreatDoor
open Go.RowKit

/-- The text of a point. -/
def ptT (p : Pt) : List UInt8 := (Lib.itoa p.x ++ [32]) ++ Lib.itoa p.y
def encL (ps : List Pt) : List UInt8 := Lib.join (ps.map ptT) [44]
def encE (ps : List Pt) : List UInt8 := if listOk ps = true then encL ps else []
theorem itoa_no {c : UInt8} (hc : c.toNat = 32 ∨ c.toNat = 44) (z : Int) : c ∉ Lib.itoa z := fun hz => by
  have := itoa_mem z _ hz
  omega
theorem ptT_no (p : Pt) : (44 : UInt8) ∉ ptT p := by
  unfold ptT
  simp only [List.mem_append, List.mem_singleton, not_or]
  exact ⟨⟨itoa_no (.inr rfl) _, by decide⟩, itoa_no (.inr rfl) _⟩
theorem ptT_cut (p : Pt) : Lib.cut (ptT p) [32] = (Lib.itoa p.x, Lib.itoa p.y, true) := by
  unfold ptT
  rw [List.append_assoc]
  exact cut_at (itoa_no (.inl rfl) _)
theorem join_two (x y : List UInt8) (r : List (List UInt8)) (s : List UInt8) : Lib.join (x :: y :: r) s = x ++ (s ++ Lib.join (y :: r) s) := by
  rw [Lib.join_cons, Lib.join_cons]; simp [Lib.joinTail]
theorem join_snoc {xs : List (List UInt8)} (h : xs ≠ []) (y s : List UInt8) : Lib.join (xs ++ [y]) s = (Lib.join xs s ++ s) ++ y := by
  cases xs with
  | nil => exact absurd rfl h
  | cons x r => rw [List.cons_append, Lib.join_cons, Lib.join_cons]; simp [Lib.joinTail, List.append_assoc]
theorem join_len {M : Nat} : ∀ (xs : List (List UInt8)) (c : UInt8), (∀ x ∈ xs, x.length ≤ M) → (Lib.join xs [c]).length ≤ (M + 1) * xs.length
  | [], c, _ => by simp [Lib.join_nil]
  | [x], c, h => by rw [Lib.join_one]; have := h x (by simp); simp; omega
  | x :: y :: r, c, h => by
    have h1 := h x (by simp)
    have h2 := join_len (y :: r) c (fun z hz => h z (List.mem_cons_of_mem _ hz))
    have e : (x :: y :: r).length = (y :: r).length + 1 := rfl
    rw [join_two, List.length_append, List.length_append, e, Nat.mul_succ]
    simp only [List.length_singleton]
    omega
theorem splN_join {c : UInt8} : ∀ (xs : List (List UInt8)) (n : Nat), xs ≠ [] → (∀ x ∈ xs, c ∉ x) → xs.length ≤ n + 1 → splN (Lib.join xs [c]) c n = xs
  | [], _, h, _, _ => absurd rfl h
  | [x], n, _, h, _ => by rw [Lib.join_one]; exact splN_no (h x (by simp)) n
  | x :: y :: r, 0, _, _, h => by simp at h
  | x :: y :: r, n + 1, _, h, hn => by
    rw [join_two]
    show splN (x ++ c :: Lib.join (y :: r) [c]) c (n + 1) = _
    rw [splN_at (h x (by simp)), splN_join (y :: r) n (by simp) (fun z hz => h z (List.mem_cons_of_mem _ hz)) (by simpa using hn)]
theorem ok_bd {p : Pt} (h : p.ok = true) : (-1000 ≤ p.x ∧ p.x ≤ 1000) ∧ (-1000 ≤ p.y ∧ p.y ≤ 1000) := by
  have := vP_iff.1 h; omega
theorem listOk_1 {ps : List Pt} (h : listOk ps = true) : ps.length ≤ 20 ∧ ∀ p ∈ ps, p.ok = true := by
  unfold listOk allOk at h
  simp at h
  exact h
theorem ptT_len {p : Pt} (h : (-9223372036854775808 ≤ p.x ∧ p.x ≤ 9223372036854775807) ∧ (-9223372036854775808 ≤ p.y ∧ p.y ≤ 9223372036854775807)) : (ptT p).length ≤ 43 := by
  have h1 := itoa_len p.x h.1
  have h2 := itoa_len p.y h.2
  unfold ptT; simp; omega
theorem encL_len {ps : List Pt} (h : ∀ p ∈ ps, p.ok = true) : (encL ps).length ≤ 44 * ps.length := by
  have := join_len (M := 43) (ps.map ptT) 44 (fun x hx => by
    obtain ⟨p, hp, rfl⟩ := List.mem_map.1 hx
    have := ok_bd (h p hp)
    exact ptT_len (by omega))
  rwa [List.length_map] at this
theorem encL_snoc {ps : List Pt} (h : ps ≠ []) (p : Pt) : encL (ps ++ [p]) = (encL ps ++ [44]) ++ ptT p := by
  unfold encL
  rw [List.map_append, List.map_cons, List.map_nil]
  exact join_snoc (by simpa using h) _ _
/-! ### reading -/
def rdP (l : List UInt8) : Pt := ⟨parI (Lib.cut l [32]).1, if (Lib.cut l [32]).2.2 = true then parI (Lib.cut l [32]).2.1 else 0⟩
def rdL (l : List UInt8) : List Pt := (splN l 44 20).map rdP
/-- What both DecodePoints answer. -/
def decL (l : List UInt8) : List Pt × Bool := if listOk (rdL l) = true ∧ encL (rdL l) = l then (rdL l, true) else ([], false)
def isL (l : List UInt8) (ps : List Pt) : Prop := ps ≠ [] ∧ listOk ps = true ∧ encL ps = l
theorem rdP_ptT {p : Pt} (h : p.ok = true) : rdP (ptT p) = p := by
  have hb := ok_bd h
  unfold rdP
  rw [ptT_cut]
  simp only [if_true]
  rw [parI_itoa (by omega), parI_itoa (by omega)]
theorem rdL_ne (l : List UInt8) : rdL l ≠ [] := by
  have := splN_ne l 44 20
  unfold rdL
  intro e
  rw [List.map_eq_nil_iff] at e
  rw [e] at this; simp at this
theorem isL_spl {l : List UInt8} {ps : List Pt} (h : isL l ps) (n : Nat) (hn : 20 ≤ n + 1) : splN l 44 n = ps.map ptT := by
  rw [← h.2.2]
  have := listOk_1 h.2.1
  refine splN_join _ n (by simpa using h.1) (fun x hx => ?_) (by rw [List.length_map]; omega)
  obtain ⟨p, _, rfl⟩ := List.mem_map.1 hx
  exact ptT_no p
theorem map_rdP : ∀ {ps : List Pt}, (∀ p ∈ ps, p.ok = true) → (ps.map ptT).map rdP = ps
  | [], _ => rfl
  | p :: r, h => by rw [List.map_cons, List.map_cons, rdP_ptT (h p (by simp)), map_rdP (fun q hq => h q (List.mem_cons_of_mem _ hq))]
theorem isL_rd {l : List UInt8} {ps : List Pt} (h : isL l ps) : rdL l = ps := by
  unfold rdL
  rw [isL_spl h 20 (by omega)]
  exact map_rdP (listOk_1 h.2.1).2
theorem decL_is {l : List UInt8} {ps : List Pt} (h : isL l ps) : decL l = (ps, true) := by
  unfold decL
  rw [isL_rd h, if_pos ⟨h.2.1, h.2.2⟩]
theorem decL_no {l : List UInt8} (h : ∀ ps, ¬ isL l ps) : decL l = ([], false) := by
  unfold decL
  rw [if_neg (fun e => h _ ⟨rdL_ne l, e.1, e.2⟩)]
theorem decL_yes {l : List UInt8} (h : (decL l).2 = true) : isL l (decL l).1 := by
  unfold decL at h ⊢
  by_cases e : listOk (rdL l) = true ∧ encL (rdL l) = l
  · rw [if_pos e]; exact ⟨rdL_ne l, e.1, e.2⟩
  · rw [if_neg e] at h; cases h
theorem dS_no {l : List UInt8} (h : ¬ (listOk (rdL l) = true ∧ encL (rdL l) = l)) : decL l = ([], false) := by unfold decL; rw [if_neg h]
theorem dS_yes {l : List UInt8} (h : listOk (rdL l) = true ∧ encL (rdL l) = l) : decL l = (rdL l, true) := by unfold decL; rw [if_pos h]
/-! ### the program's reading -/
def pcs (l : List UInt8) : List (List UInt8) := splN l 44 (l.length + 20)
def atO (x : List UInt8) : Option Pt := match Lib.atoiAll (Lib.cut x [32]).1, Lib.atoiAll (Lib.cut x [32]).2.1 with | .ok a, .ok b => some ⟨a, b⟩ | _, _ => none
theorem atO_ok {x : List UInt8} {a b : Int} (h1 : Lib.atoiAll (Lib.cut x [32]).1 = .ok a) (h2 : Lib.atoiAll (Lib.cut x [32]).2.1 = .ok b) : atO x = some ⟨a, b⟩ := by unfold atO; rw [h1, h2]
theorem atO_n1 {x : List UInt8} (h : ∀ v, Lib.atoiAll (Lib.cut x [32]).1 ≠ .ok v) : atO x = none := by
  unfold atO
  split
  · rename_i h1 _; exact absurd h1 (h _)
  · rfl
theorem atO_n2 {x : List UInt8} (h : ∀ v, Lib.atoiAll (Lib.cut x [32]).2.1 ≠ .ok v) : atO x = none := by
  unfold atO
  split
  · rename_i h1; exact absurd h1 (h _)
  · rfl
theorem atO_ptT {p : Pt} (h : p.ok = true) : atO (ptT p) = some p := by
  have hb := ok_bd h
  rw [atO_ok (a := p.x) (b := p.y) (by rw [ptT_cut]; exact atoi_itoa (by omega)) (by rw [ptT_cut]; exact atoi_itoa (by omega))]
theorem map_atO : ∀ {ps : List Pt}, (∀ p ∈ ps, p.ok = true) → (ps.map ptT).map atO = ps.map some
  | [], _ => rfl
  | p :: r, h => by rw [List.map_cons, List.map_cons, atO_ptT (h p (by simp)), map_atO (fun q hq => h q (List.mem_cons_of_mem _ hq)), List.map_cons]
theorem isL_pcs {l : List UInt8} {ps : List Pt} (h : isL l ps) : (pcs l).map atO = ps.map some := by
  unfold pcs
  rw [isL_spl h _ (by omega)]
  exact map_atO (listOk_1 h.2.1).2
theorem map_some_inj : ∀ {a b : List Pt}, a.map some = b.map some → a = b
  | [], [], _ => rfl
  | [], _ :: _, h => by simp at h
  | _ :: _, [], h => by simp at h
  | x :: a, y :: b, h => by
    rw [List.map_cons, List.map_cons, List.cons_eq_cons] at h
    rw [Option.some.inj h.1, map_some_inj h.2]
theorem dI_bad {l x : List UInt8} (hx : x ∈ pcs l) (h : atO x = none) : decL l = ([], false) := decL_no fun ps hp => by
  have := isL_pcs hp
  have hm : none ∈ (pcs l).map atO := by rw [← h]; exact List.mem_map_of_mem hx
  rw [this] at hm
  simp at hm
theorem pcs_nil : pcs [] = [[]] := by unfold pcs; exact splN_no (by simp) _
theorem atO_nil : atO [] = none := by
  have h : Lib.atoiAll (Lib.cut [] [32]).1 = Lib.atoiAll [] := by rw [cut_no (by simp)]
  refine atO_n1 fun v hv => ?_
  rw [h] at hv
  simp [Lib.atoiAll] at hv
theorem dI_ok {l : List UInt8} {out : List Pt} (h : (pcs l).map atO = out.map some) : decL l = if encE out = l then (out, true) else ([], false) := by
  have hl : l ≠ [] := fun e => by
    rw [e, pcs_nil, List.map_cons, atO_nil] at h
    cases out with
    | nil => simp at h
    | cons p r => simp at h
  by_cases he : encE out = l
  · rw [if_pos he]
    refine decL_is ?_
    unfold encE at he
    by_cases ho : listOk out = true
    · rw [if_pos ho] at he
      refine ⟨fun e => hl (by rw [← he, e]; rfl), ho, he⟩
    · rw [if_neg ho] at he; exact absurd he.symm hl
  · rw [if_neg he]
    refine decL_no fun ps hp => he ?_
    have e : ps = out := map_some_inj (by rw [← isL_pcs hp, h])
    rw [← e]
    unfold encE
    rw [if_pos hp.2.1, hp.2.2]
theorem pcs_len (l : List UInt8) : (pcs l).length ≤ l.length + 1 := by
  have key : ∀ (n : Nat) (m : List UInt8), (splN m 44 n).length ≤ m.length + 1 := by
    intro n
    induction n with
    | zero => intro m; simp [splN]
    | succ n ih =>
      intro m
      rcases split_at m 44 with h | ⟨a, b, rfl, ha⟩
      · rw [splN_no h]; simp
      · rw [splN_at ha]; have := ih b; simp; omega
  exact key _ l
/-! ### both laws -/
theorem dec_enc {ps : List Pt} (h : encE ps ≠ []) : decL (encE ps) = (ps, true) := by
  unfold encE at h ⊢
  by_cases ho : listOk ps = true
  · rw [if_pos ho] at h ⊢
    exact decL_is ⟨fun e => h (by rw [e]; rfl), ho, rfl⟩
  · rw [if_neg ho] at h; exact absurd rfl h
end Go.Proofs.YtnddfdhfefconaaGreatDoor
