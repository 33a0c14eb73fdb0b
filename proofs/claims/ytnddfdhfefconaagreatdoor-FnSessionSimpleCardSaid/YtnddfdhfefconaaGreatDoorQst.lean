
/- The map of the questions: how it is made, what stands in it. -/
import Derived.Test.YtnddfdhfefconaaGreatDoorBase
import Derived.Test.YtnddfdhfefconaaGreatDoorEnc
import Derived.Test.YtnddfdhfefconaaGreatDoorRows
import Derived.Maps.Own
import Derived.Maps.OwnOps
import Derived.Maps.Views
set_option linter.unusedVariables false
set_option linter.unusedSimpArgs false
namespace Go.Proofs.YtnddfdhfefconaaGreatDoor
open Go.RowKit Go.Maps

/-- A literal's store into a map: as 'm[k] = v'. -/
theorem wpList_insert_own {H : Type} {P : Program} (w : World) {ops : Array Oper} {rest : List Oper} {o : Oper} {a : Act} {Q : Exit → Act → World → Prop}
    (hg : o.guard = none) (m x v : Operand) (t : TypeId) (hop : o.op = Op.insert t m x v)
    (k e : TypeId) (K : Keyed P k) (ht : P.underlying t = some (.map k e)) (R : Value → Option (DataW H × List MemPlace)) (b n : Nat) (D : DataW H)
    (hm : a.eval m = .map (some b)) (hown : w.ownsMap P k R b n D) (hn : n < maxLen) (key val : Value) (kl : Lit) (hx : a.eval x = key) (hv : a.eval v = val) (hkey : keyOf P k key = some kl)
    (d : DataW H) (ps : List MemPlace) (hval : R val = some (d, ps))
    (hK : ∀ w', w'.ownsMap P k R b (n + 1) (D.put kl d) → w.grownBy w' (some b) → wpList P ops Q rest (a.put o.dst undef) w') :
    wpList P ops Q (o :: rest) a w := by
  refine wpList_plain hg fun K' hK' => ?_
  obtain ⟨w', hrun, r1, r2⟩ := hown.update K ht hn hkey hval
  unfold Oper.wp
  simp [execOp, hop, hm, hx, hv, hrun, Result.andThen]
  exact hK' _ _ (hK w' r1 r2)
/-- A function without captured variables reads as its number. -/
def fnR (v : Value) : Option (DataW Unit × List MemPlace) := match v with
  | .func (.func k) a b => if a.size = 0 ∧ b.size = 0 then some (.lit (.int .i64 (k : Int)), []) else none
  | _ => none
theorem fnR_mk (k : Nat) : fnR (.func (.func k) #[] #[]) = some (.lit (.int .i64 (k : Int)), []) := rfl
theorem fnR_inv {v : Value} {y : DataW Unit × List MemPlace} (h : fnR v = some y) : ∃ k : Nat, v = .func (.func k) #[] #[] ∧ y.1 = .lit (.int .i64 (k : Int)) := by
  unfold fnR at h
  split at h
  · rename_i k a b
    split at h
    · rename_i hh
      injection h with h
      obtain ⟨h1, h2⟩ := hh
      rw [Array.size_eq_zero_iff.1 h1, Array.size_eq_zero_iff.1 h2]
      exact ⟨k, rfl, by rw [← h]⟩
    · cases h
  · cases h
def qHull : List UInt8 := [104, 117, 108, 108]
def qArea : List UInt8 := [97, 114, 101, 97]
def qInside : List UInt8 := [105, 110, 115, 105, 100, 101]
def qSimple : List UInt8 := [115, 105, 109, 112, 108, 101]
def qDiameter : List UInt8 := [100, 105, 97, 109, 101, 116, 101, 114]
def qCircle : List UInt8 := [99, 105, 114, 99, 108, 101]
def qKd : List UInt8 := [107, 100]
def qTree : List UInt8 := [116, 114, 101, 101]
/-- The function that answers to a name. -/
def cmdFn (l : List UInt8) : Option Nat :=
  if l = qHull then some 87 else if l = qArea then some 88 else if l = qInside then some 91 else if l = qSimple then some 93 else
  if l = qDiameter then some 94 else if l = qCircle then some 96 else if l = qKd then some 98 else if l = qTree then some 100 else none
def cmdD : DataW Unit := ((((((((DataW.map []).put (.string qHull) (.lit (.int .i64 ((87 : Nat) : Int)))).put (.string qArea) (.lit (.int .i64 ((88 : Nat) : Int)))).put (.string qInside) (.lit (.int .i64 ((91 : Nat) : Int)))).put (.string qSimple) (.lit (.int .i64 ((93 : Nat) : Int)))).put (.string qDiameter) (.lit (.int .i64 ((94 : Nat) : Int)))).put (.string qCircle) (.lit (.int .i64 ((96 : Nat) : Int)))).put (.string qKd) (.lit (.int .i64 ((98 : Nat) : Int)))).put (.string qTree) (.lit (.int .i64 ((100 : Nat) : Int)))
theorem law : Keyed Tryz.prog 9 := string_keyed Tryz.underlying9
theorem key_bs (l : List UInt8) (hl : l.length ≤ 2000000) : keyOf Tryz.prog 9 (.string (bS l)) = some (.string l) := by
  have := Go.WideMaps.keyOf_string_mk Tryz.underlying9 (s := bS l) (by rw [bS_size]; unfold maxLen; omega)
  rw [bS_list] at this
  exact this
set_option maxRecDepth 20000 in
set_option maxHeartbeats 2000000 in
theorem questions_any (w : World) : Calls Tryz.prog 52 #[] w fun e w' => e = .returned (.map (some w.heap.size)) ∧ w'.ownsMap Tryz.prog 9 fnR w.heap.size 8 cmdD ∧ ∃ x, w' = ext w x := by
  have hmm := @run_makeMap Tryz.prog
  have hown := World.ownsMap_made w Tryz.prog 9 fnR
  have hB := hide (show Below w.heap.size w (w.alloc (.map #[] 0)) from (Below.refl _ _).alloc (Nat.le_refl _) _)
  go_enter Tryz.func52, Tryz.ntmps52
  go_wp2_with (first
    | (refine wpList_insert_own _ rfl _ _ _ 76 rfl 9 25 law Tryz.underlying76 fnR w.heap.size 0 _ rfl hown (by decide) _ _ (.string qHull) rfl rfl (key_bs qHull (by decide)) _ [] (fnR_mk 87) ?_; clear hown; intro w1 hown hg; have hB := hide (Below.grown hB.out hg (by have := hB.out.size; omega) (fun j hj => by cases hj; exact Nat.le_refl _)); clear hg)
    | (refine wpList_insert_own _ rfl _ _ _ 76 rfl 9 25 law Tryz.underlying76 fnR w.heap.size 1 _ rfl hown (by decide) _ _ (.string qArea) rfl rfl (key_bs qArea (by decide)) _ [] (fnR_mk 88) ?_; clear hown; intro w2 hown hg; have hB := hide (Below.grown hB.out hg (by have := hB.out.size; omega) (fun j hj => by cases hj; exact Nat.le_refl _)); clear hg)
    | (refine wpList_insert_own _ rfl _ _ _ 76 rfl 9 25 law Tryz.underlying76 fnR w.heap.size 2 _ rfl hown (by decide) _ _ (.string qInside) rfl rfl (key_bs qInside (by decide)) _ [] (fnR_mk 91) ?_; clear hown; intro w3 hown hg; have hB := hide (Below.grown hB.out hg (by have := hB.out.size; omega) (fun j hj => by cases hj; exact Nat.le_refl _)); clear hg)
    | (refine wpList_insert_own _ rfl _ _ _ 76 rfl 9 25 law Tryz.underlying76 fnR w.heap.size 3 _ rfl hown (by decide) _ _ (.string qSimple) rfl rfl (key_bs qSimple (by decide)) _ [] (fnR_mk 93) ?_; clear hown; intro w4 hown hg; have hB := hide (Below.grown hB.out hg (by have := hB.out.size; omega) (fun j hj => by cases hj; exact Nat.le_refl _)); clear hg)
    | (refine wpList_insert_own _ rfl _ _ _ 76 rfl 9 25 law Tryz.underlying76 fnR w.heap.size 4 _ rfl hown (by decide) _ _ (.string qDiameter) rfl rfl (key_bs qDiameter (by decide)) _ [] (fnR_mk 94) ?_; clear hown; intro w5 hown hg; have hB := hide (Below.grown hB.out hg (by have := hB.out.size; omega) (fun j hj => by cases hj; exact Nat.le_refl _)); clear hg)
    | (refine wpList_insert_own _ rfl _ _ _ 76 rfl 9 25 law Tryz.underlying76 fnR w.heap.size 5 _ rfl hown (by decide) _ _ (.string qCircle) rfl rfl (key_bs qCircle (by decide)) _ [] (fnR_mk 96) ?_; clear hown; intro w6 hown hg; have hB := hide (Below.grown hB.out hg (by have := hB.out.size; omega) (fun j hj => by cases hj; exact Nat.le_refl _)); clear hg)
    | (refine wpList_insert_own _ rfl _ _ _ 76 rfl 9 25 law Tryz.underlying76 fnR w.heap.size 6 _ rfl hown (by decide) _ _ (.string qKd) rfl rfl (key_bs qKd (by decide)) _ [] (fnR_mk 98) ?_; clear hown; intro w7 hown hg; have hB := hide (Below.grown hB.out hg (by have := hB.out.size; omega) (fun j hj => by cases hj; exact Nat.le_refl _)); clear hg)
    | (refine wpList_insert_own _ rfl _ _ _ 76 rfl 9 25 law Tryz.underlying76 fnR w.heap.size 7 _ rfl hown (by decide) _ _ (.string qTree) rfl rfl (key_bs qTree (by decide)) _ [] (fnR_mk 100) ?_; clear hown; intro w8 hown hg; have hB := hide (Below.grown hB.out hg (by have := hB.out.size; omega) (fun j hj => by cases hj; exact Nat.le_refl _)); clear hg))
  go_ret
  exact ⟨rfl, hown, ext_mk hB.out⟩
theorem put_hit {D : DataW Unit} (l : List UInt8) (d z : DataW Unit) (hD : IsMap D) : (D.put (.string l) d).atKey (.string l) z = d := atKey_put_same hD (show Go.WideAt.IsKeyLit (.string l) from trivial) d z
theorem put_map {D : DataW Unit} (k : Lit) (d : DataW Unit) (hD : IsMap D) : IsMap (D.put k d) := by
  obtain ⟨es, e⟩ := hD
  subst e
  exact ⟨_, rfl⟩
theorem cmd_at (l : List UInt8) (zd : DataW Unit) : cmdD.atKey (.string l) zd = match cmdFn l with | some k => .lit (.int .i64 (k : Int)) | none => zd := by
  unfold cmdD cmdFn
  have ne : ∀ {a : List UInt8}, l ≠ a → (Lit.string l) ≠ (Lit.string a) := fun h e => h (by injection e)
  by_cases h8 : l = qTree
  · subst h8
    rw [put_hit]
    · rw [if_neg (by decide), if_neg (by decide), if_neg (by decide), if_neg (by decide), if_neg (by decide), if_neg (by decide), if_neg (by decide), if_pos rfl]
    · (repeat (first | exact isMap_empty | refine put_map _ _ ?_))
  rw [atKey_put_other (ne h8)]
  by_cases h7 : l = qKd
  · subst h7
    rw [put_hit]
    · rw [if_neg (by decide), if_neg (by decide), if_neg (by decide), if_neg (by decide), if_neg (by decide), if_neg (by decide), if_pos rfl]
    · (repeat (first | exact isMap_empty | refine put_map _ _ ?_))
  rw [atKey_put_other (ne h7)]
  by_cases h6 : l = qCircle
  · subst h6
    rw [put_hit]
    · rw [if_neg (by decide), if_neg (by decide), if_neg (by decide), if_neg (by decide), if_neg (by decide), if_pos rfl]
    · (repeat (first | exact isMap_empty | refine put_map _ _ ?_))
  rw [atKey_put_other (ne h6)]
  by_cases h5 : l = qDiameter
  · subst h5
    rw [put_hit]
    · rw [if_neg (by decide), if_neg (by decide), if_neg (by decide), if_neg (by decide), if_pos rfl]
    · (repeat (first | exact isMap_empty | refine put_map _ _ ?_))
  rw [atKey_put_other (ne h5)]
  by_cases h4 : l = qSimple
  · subst h4
    rw [put_hit]
    · rw [if_neg (by decide), if_neg (by decide), if_neg (by decide), if_pos rfl]
    · (repeat (first | exact isMap_empty | refine put_map _ _ ?_))
  rw [atKey_put_other (ne h4)]
  by_cases h3 : l = qInside
  · subst h3
    rw [put_hit]
    · rw [if_neg (by decide), if_neg (by decide), if_pos rfl]
    · (repeat (first | exact isMap_empty | refine put_map _ _ ?_))
  rw [atKey_put_other (ne h3)]
  by_cases h2 : l = qArea
  · subst h2
    rw [put_hit]
    · rw [if_neg (by decide), if_pos rfl]
    · (repeat (first | exact isMap_empty | refine put_map _ _ ?_))
  rw [atKey_put_other (ne h2)]
  by_cases h1 : l = qHull
  · subst h1
    rw [put_hit]
    · rw [if_pos rfl]
    · (repeat (first | exact isMap_empty | refine put_map _ _ ?_))
  rw [atKey_put_other (ne h1), if_neg h1, if_neg h2, if_neg h3, if_neg h4, if_neg h5, if_neg h6, if_neg h7, if_neg h8]
  rfl
set_option maxRecDepth 20000 in
theorem look_cmd {w : World} {b : Nat} (hown : w.ownsMap Tryz.prog 9 fnR b 8 cmdD) (l : List UInt8) (hl : l.length ≤ 2000000) :
    (∀ k, cmdFn l = some k → (Instr.lookup 76 (.map (some b)) (.string (bS l)) true).run Tryz.prog w = .ok (.tuple #[.func (.func k) #[] #[], .bool true]) w) ∧
    (cmdFn l = none → ∃ z, (Instr.lookup 76 (.map (some b)) (.string (bS l)) true).run Tryz.prog w = .ok (.tuple #[z, .bool false]) w) := by
  obtain ⟨es, clock, hb, F, _, hD⟩ := hown
  have hz : ∃ z, (zeroValue 25).run Tryz.prog w = .ok z w := ⟨_, Tryz.zeroValue25 w⟩
  obtain ⟨z, hz⟩ := hz
  rcases Maps.fit_look true law Tryz.underlying76 hz hb F (key_bs l hl) with ⟨hrun, _, hat⟩ | ⟨e0, y, _, _, hrun, hR, hat, _⟩
  · rw [← hD] at hat
    have hn : cmdFn l = none := by
      cases e : cmdFn l with
      | none => rfl
      | some k =>
        have h1 := hat .nil
        rw [cmd_at, e] at h1
        cases h1
    exact ⟨(fun k hk => by rw [hn] at hk; cases hk), (fun _ => ⟨z, by simpa using hrun⟩)⟩
  · rw [← hD] at hat
    obtain ⟨k, hv, hy⟩ := fnR_inv hR
    have hs : cmdFn l = some k := by
      cases e : cmdFn l with
      | none =>
        have h1 := hat .nil
        rw [cmd_at, e, hy] at h1
        cases h1
      | some k' =>
        have h1 := hat .nil
        rw [cmd_at, e, hy] at h1
        injection h1 with h1
        injection h1 with _ h1
        have e2 : k' = k := by exact Int.ofNat.inj h1
        rw [e2]
    refine ⟨fun k' hk => ?_, (fun hn => by rw [hs] at hn; cases hn)⟩
    rw [hs] at hk
    injection hk with hk
    subst hk
    rw [hv] at hrun
    simpa using hrun
end Go.Proofs.YtnddfdhfefconaaGreatDoor
