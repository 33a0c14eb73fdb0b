
/- strings.SplitSeq at a separator of one byte: the iterator's word. -/
import Derived.RangeFuncNested
import Derived.RangeFuncBound
import Derived.RangeFuncCalls
import Derived.RangeFuncLeaves
import Derived.Shelf.Abstract
import Derived.Shelf.RegionOpen
import Derived.WalkKit
import Derived.OwnWalkIn
import Derived.TacticsInMore
import Derived.LoopNIn
import Derived.LoopIn
import Derived.Test.YtnddfdhfefconaaGreatDoorRng
import Derived.Test.YtnddfdhfefconaaGreatDoorSlayU
import Derived.Test.YtnddfdhfefconaaGreatDoorPtM
import Derived.Test.YtnddfdhfefconaaGreatDoorLaid
set_option linter.unusedVariables false
set_option linter.unusedSimpArgs false
namespace Go.Proofs.YtnddfdhfefconaaGreatDoor
open Go.RowKit Go.Shelf

attribute [local go_sem] Oper.semAt_some

theorem index_no {l : List UInt8} {c : UInt8} (h : c ∉ l) : Lib.index l [c] = -1 := by
  rcases Lib.index_spec l [c] with ⟨e, _⟩ | ⟨i, e, hi, ho, _⟩
  · exact e
  · exfalso
    unfold Lib.occAt at ho
    simp [List.isPrefixOf] at ho
    cases hd : l.drop i with
    | nil => rw [hd] at ho; simp at ho
    | cons x r =>
      rw [hd] at ho
      simp at ho
      exact h (by have : x ∈ l.drop i := by rw [hd]; simp
                  rw [ho]; exact List.mem_of_mem_drop this)
theorem index_at {a b : List UInt8} {c : UInt8} (h : c ∉ a) : Lib.index (a ++ c :: b) [c] = (a.length : Nat) := by
  refine Lib.index_hit ?_ (by simp) (by simp [Lib.occAt, List.isPrefixOf])
  intro j hj
  unfold Lib.occAt
  rw [List.drop_append_of_le_length (by omega)]
  cases hd : a.drop j with
  | nil => have := congrArg List.length hd; simp at this; omega
  | cons x r =>
    have : x ∈ a := List.mem_of_mem_drop (by rw [hd]; simp : x ∈ a.drop j)
    simp [List.isPrefixOf]
    intro e; exact h (by rw [e]; exact this)
theorem index_any (l : List UInt8) (w : World) (hl : l.length ≤ 2000000) (hM : MaxL w) :
    Calls Tryz.prog 180 #[.string (bS l), .string ⟨#[44]⟩] w fun e w' => e = .returned (.int .i64 (Lib.index l [44])) ∧ w' = w := by
  obtain ⟨m, hm⟩ := hM
  have h := Any.strings_Index (ρ := Tryz.idxS_ren) { Tryz.idxS with } (bS l) (bS [44]) m w (by rw [bS_size]; omega) hm
  rw [bS_list, bS_list] at h
  exact h
/-- How many bytes are still to come, read off the world. -/
def leftIn (Bs : Nat) (W : World) : Nat := match W.cell? ⟨Bs, 0, none⟩ with | some (.string s) => s.size | _ => 0
theorem leftIn_of {Bs : Nat} {W : World} {l : List UInt8} (h : W.cell? ⟨Bs, 0, none⟩ = some (.string (bS l))) : leftIn Bs W = l.length := by
  unfold leftIn; rw [h]; exact bS_size l
/-- What a round keeps: the iterator's three cells. -/
def Kept3 (Bp Bs Bv : Nat) (W W' : World) : Prop := W'.heap[Bp]? = W.heap[Bp]? ∧ W'.heap[Bs]? = W.heap[Bs]? ∧ W'.heap[Bv]? = W.heap[Bv]?
theorem Kept3.t {Bp Bs Bv : Nat} {A B C : World} (h : Kept3 Bp Bs Bv A B) (k : Kept3 Bp Bs Bv B C) : Kept3 Bp Bs Bv A C := ⟨k.1.trans h.1, k.2.1.trans h.2.1, k.2.2.trans h.2.2⟩
def It3 (Bp Bs Bv : Nat) (r : List UInt8) (W : World) : Prop :=
  (∃ t, W.heap[Bp]? = some (.cells #[.string ⟨#[44]⟩] t (0, 0))) ∧ (∃ t, W.heap[Bs]? = some (.cells #[.string (bS r)] t (0, 0))) ∧ (∃ t, W.heap[Bv]? = some (.cells #[.int .i64 0] t (0, 0)))
theorem It3.kept {Bp Bs Bv : Nat} {r : List UInt8} {W W' : World} (h : It3 Bp Bs Bv r W) (k : Kept3 Bp Bs Bv W W') : It3 Bp Bs Bv r W' := by
  obtain ⟨⟨t1, a⟩, ⟨t2, b⟩, t3, c⟩ := h
  exact ⟨⟨t1, k.1.trans a⟩, ⟨t2, k.2.1.trans b⟩, t3, k.2.2.trans c⟩
theorem It3.cells {Bp Bs Bv : Nat} {r : List UInt8} {W : World} (h : It3 Bp Bs Bv r W) : (W.cell? ⟨Bp, 0, none⟩ = some (.string ⟨#[44]⟩) ∧ W.cell? ⟨Bs, 0, none⟩ = some (.string (bS r)) ∧ W.cell? ⟨Bv, 0, none⟩ = some (.int .i64 0)) ∧ W.frozen? ⟨Bs, 0, none⟩ = false := by
  obtain ⟨⟨t1, a⟩, ⟨t2, b⟩, t3, c⟩ := h
  exact ⟨⟨heap_cell a 0, heap_cell b 0, heap_cell c 0⟩, heap_frozen b 0⟩
theorem box1_0 {w : World} {g : Nat} {x : Value} {T : TypeId} (h : w.heap[g]? = some (.cells #[x] T (0, 0))) (a : Value) : (w.setCell ⟨g, 0, none⟩ a).heap[g]? = some (.cells #[a] T (0, 0)) := by
  simp [World.setCell, Array.getElem?_modify, h]
theorem It3.set {Bp Bs Bv : Nat} {r : List UInt8} {W : World} (h : It3 Bp Bs Bv r W) (h1 : Bp ≠ Bs) (h2 : Bv ≠ Bs) (r' : List UInt8) : It3 Bp Bs Bv r' (W.setCell ⟨Bs, 0, none⟩ (.string (bS r'))) := by
  obtain ⟨⟨t1, a⟩, ⟨t2, b⟩, t3, c⟩ := h
  exact ⟨⟨t1, (Below.heap_setCell W _ _ Bp h1).trans a⟩, ⟨t2, box1_0 b _⟩, t3, (Below.heap_setCell W _ _ Bv h2).trans c⟩
theorem pcs_step {pre : List (List UInt8)} {a b L : List UInt8} {m : Nat} (h : pre ++ splN (a ++ 44 :: b) 44 m = pcs L) (ha : (44 : UInt8) ∉ a) (hm : (a ++ 44 :: b).length ≤ m) : (pre ++ [a]) ++ splN b 44 (m - 1) = pcs L ∧ b.length ≤ m - 1 := by
  rw [List.length_append, List.length_cons] at hm
  obtain ⟨m', rfl⟩ : ∃ m', m = m' + 1 := ⟨m - 1, by omega⟩
  rw [splN_at ha] at h
  refine ⟨?_, by omega⟩
  rw [← h, List.append_assoc]; rfl
theorem pcs_last {pre : List (List UInt8)} {r L : List UInt8} {m : Nat} (h : pre ++ splN r 44 m = pcs L) (hr : (44 : UInt8) ∉ r) : pre ++ [r] = pcs L := by rwa [splN_no hr] at h
theorem ext_two {a b : List UInt8} : (bS (a ++ 44 :: b)).extract 0 a.length = bS a ∧ (bS (a ++ 44 :: b)).extract (a.length + 1) (a ++ 44 :: b).length = bS b := by
  rw [bS_ext, bS_ext]
  constructor
  · simp
  · congr 1
    rw [List.length_append, List.length_cons]
    have e : (a ++ 44 :: b).drop (a.length + 1) = b := by rw [show a ++ 44 :: b = (a ++ [44]) ++ b by simp]; exact List.drop_left' (by simp)
    rw [e, List.take_of_length_le (by omega)]
set_option maxRecDepth 100000 in
set_option maxHeartbeats 2000000 in
theorem split_it (L : List UInt8) (Bp Bs Bv : Nat) (n : Nat) (w : World) (hL : L.length ≤ 2000000) (h1 : Bp ≠ Bs) (h2 : Bv ≠ Bs) (hI : It3 Bp Bs Bv L w) (hb1 : Bp < w.heap.size) (hb2 : Bs < w.heap.size) (hb3 : Bv < w.heap.size) :
    SeqCells n Tryz.prog 178 #[.pointer (some ⟨Bp, 0, none⟩), .pointer (some ⟨Bs, 0, none⟩), .pointer (some ⟨Bv, 0, none⟩)] (fun x : List UInt8 => #[.string (bS x)]) (fun p => p = ⟨Bs, 0, none⟩) (Kept3 Bp Bs Bv) MaxL
      (fun pre x => pre ++ [x] <+: pcs L) (fun xs => xs = pcs L) (fun _ => True) w := by
  intro l J Jx W hb hst hZ hY h0
  have hIW : It3 Bp Bs Bv L W := hI.kept ⟨hb.block Bp hb1, hb.block Bs hb2, hb.block Bv hb3⟩
  have HST := hide hst
  have HZ := hide hZ
  have HY := hide hY
  clear hst hZ hY hI hb hb1 hb2 hb3
  have J0 := hide h0
  clear h0
  obtain ⟨⟨c1, c2, c3⟩, f2⟩ := hIW.cells
  have HIW := hide hIW
  refine callsIn_of_wp Tryz.func178 rfl trivial ?_ rfl
  simp only [Tryz.ntmps178, List.size_toArray, List.length_cons, List.length_nil, Nat.reduceAdd, Nat.reduceSub, Array.replicate_succ, Array.replicate_zero, List.push_toArray, List.append_toArray, List.nil_append, List.cons_append]
  gi_wp2
  gi_loopw [7] (fun u7 wr => ∃ (pre : List (List UInt8)) (r : List UInt8) (m : Nat), J pre wr ∧ It3 Bp Bs Bv r wr ∧ Hid (pre ++ splN r 44 m = pcs L) ∧ r.length ≤ m ∧ r.length ≤ L.length) (fun u7 wr => leftIn Bs wr)
  case atStart => exact ⟨[], L, L.length + 20, J0.out, HIW.out, hide rfl, by omega, Nat.le_refl _⟩
  case round =>
    obtain ⟨pre, r, m, hJ, hI3, HP, hm, hrl⟩ := hrel
    clear hIW c1 c2 c3 f2 J0 HIW
    obtain ⟨⟨c1, c2, c3⟩, f2⟩ := hI3.cells
    have HX := hide (index_any r wr (by omega) (HZ.out _ _ hJ))
    have HJ := hide hJ
    have HI3 := hide hI3
    have SZ := bS_size r
    clear hJ hI3
    rcases split_at r 44 with hno | ⟨a, b, rfl, ha⟩
    · rw [index_no hno] at HX
      have hl := hide (pcs_last HP.out hno)
      obtain ⟨fn, tmps, assign, body, hy, hR⟩ := HY.out pre r wr HJ.out ⟨[], by simpa using hl.out⟩
      clear hno HP hm
      gi_wp2
      refine ⟨trivial, (fun h => by cases h), (callsIn_wide.2 HX.out).mono ?_⟩
      rintro e w' ⟨rfl, rfl⟩
      gi_wp2
      refine ⟨(fun h => by cases h), hR.mono ?_⟩
      rintro e W3 (⟨rfl, hJ3, hk3⟩ | ⟨rfl, hJx3⟩)
      · gi_wp2
        go_end0
        exact ⟨⟨_, rfl⟩, .inl ⟨_, hl.out, hJ3⟩⟩
      · gi_wp2
        go_end0
        exact ⟨⟨_, rfl⟩, .inr ⟨_, trivial, hJx3⟩⟩
    · rw [index_at ha] at HX
      have EX := ext_two (a := a) (b := b)
      obtain ⟨hp2, hm2⟩ := pcs_step HP.out ha hm
      have HP2 := hide hp2
      have pf : pre ++ [a] <+: pcs L := ⟨_, hp2⟩
      obtain ⟨fn, tmps, assign, body, hy, hR⟩ := HY.out pre a wr HJ.out pf
      have LI := hide (leftIn_of c2)
      have rl2 : (a ++ 44 :: b).length = a.length + (b.length + 1) := by simp
      obtain ⟨T, hT⟩ : ∃ T, T = (a ++ 44 :: b).length := ⟨_, rfl⟩
      rw [← hT] at hrl SZ EX LI rl2 hm
      have lb : b.length < T := by omega
      have lb2 := hide lb
      generalize hi : a.length = i at *
      have q4 : (i : Int) ≤ (T : Int) := by omega
      have q5 : (i : Int) + 1 ≤ (T : Int) := by omega
      have q6 : ((i : Int) + 1).toNat = i + 1 := by omega
      have q7 : -9223372036854775808 ≤ (i : Int) ∧ (i : Int) ≤ 9223372036854775807 := by omega
      have q8 : -9223372036854775808 ≤ (i : Int) + 1 ∧ (i : Int) + 1 ≤ 9223372036854775807 := by omega
      have q1 : decide ((i : Int) < 0) = false := (by first | omega | (simp; done) | (simp; omega))
      have q2 : wrap64 (i : Int) = i := IntWalk.wrap64_in _ q7
      have q3 : wrap64 ((i : Int) + 1) = (i : Int) + 1 := IntWalk.wrap64_in _ q8
      clear q7 q8 rl2
      obtain ⟨x1, x2⟩ := EX
      clear ha HP hm hp2 pf hT hi lb
      generalize hS : bS (a ++ 44 :: b) = S at *
      have HS := hide hS
      clear hS
      gi_wp2
      refine ⟨trivial, (fun h => by cases h), (callsIn_wide.2 HX.out).mono ?_⟩
      rintro e w' ⟨rfl, rfl⟩
      gi_wp2
      refine ⟨(fun h => by cases h), hR.mono ?_⟩
      rintro e W3 (⟨rfl, hJ3, hk3⟩ | ⟨rfl, hJx3⟩)
      · have I3 := hide (HI3.out.kept hk3)
        have J3 := hide (HST.out _ _ _ (.string (bS b)) rfl hJ3)
        have SET := hide (I3.out.set h1 h2 b)
        clear c1 c2 c3 f2 hJ3 hk3
        obtain ⟨⟨c1, c2, c3⟩, f2⟩ := I3.out.cells
        rw [HS.out] at c2
        gi_wp2
        go_roundw
        case rel => exact ⟨pre ++ [a], b, m - 1, J3.out, SET.out, HP2, hm2, by have := lb2.out; omega⟩
        case measure => rw [leftIn_of SET.out.cells.1.2.1, LI.out]; exact lb2.out
      · gi_wp2
        refine bodyPost_ret (results_none rfl _ _ _) rfl ?_
        exact ⟨⟨_, rfl⟩, .inr ⟨_, trivial, hJx3⟩⟩
end Go.Proofs.YtnddfdhfefconaaGreatDoor
