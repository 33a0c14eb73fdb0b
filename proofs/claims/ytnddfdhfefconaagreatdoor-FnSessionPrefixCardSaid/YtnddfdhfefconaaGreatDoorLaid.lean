
/- From a row's listed variables to what the walks ask of their worlds; Atoi, Cut. -/
/- laws.FnExactEncodeRatPoint: both texts are one. -/
import Derived.Test.YtnddfdhfefconaaGreatDoorEnc
import Derived.SizedLaws
import Derived.HandedShaped
import Derived.MakeChecks
import Derived.Stop.LaidErr
import Derived.Lib.LaidU8
set_option linter.unusedVariables false
set_option linter.unusedSimpArgs false
namespace Go.Proofs.YtnddfdhfefconaaGreatDoor
open Go.RowKit

/-- The wrap of a row with listed variables, the world's shape kept. -/
theorem handed_laid {H : Type} {enc : TypeId × Value → H} {a : Assume} {C : Checked} {os : Os} {f : FuncId} {fn : Func} {s : ChangeSpec} {conds : List PathCond} {apart fresh handsOn again : Bool} {X : World → Array Value → Prop}
    (hX : ∀ (w w' : World) (args : Array Value), w.heap = w'.heap → X w args → X w' args)
    (own : ownKnob C.prog.godebug = none) (started : os.Started) (noInit : C.prog.inits.idxOf? f = none) (hfn : C.prog.funcs[f]? = some fn)
    (witness : ∃ (w : World) (tape : Tape) (i : Input), w.os = os ∧ (w.forCall tape i).Shaped C.prog ∧ i.vars = [] ∧ Input.okWide C.prog (w.forCall tape i) .any w.heap.size f i ∧
      ((s.pre enc C.prog fn conds apart (w.forCall tape i).memory i.args ∧ X (w.forCall tape i).memory i.args) ∧ sizedMet enc C.prog fn (OpenSpec.ofChange s) apart (w.forCall tape i).memory i.args) ∧ a.holds C.prog (lone (Frame.enter C.prog f i.args .normal) [] (w.forCall tape i)))
    (contract : ∀ (W : World) (base : Nat) (args : Array Value) (ds gs : List (DataW H)) (before : List MemPlace),
      (∀ (j : Nat) t v, fn.params[j]? = some t → args[j]? = some v → Value.okWide C.prog W .any base t v) →
      DataW.Whole enc C.prog fn.params.toList s.vars apart W args.toList ds gs before → W.ShapedOpen C.prog → X W args →
      Calls C.prog f args W fun e W' => ∃ v, e = .returned v ∧ s.post enc C.prog fn apart fresh handsOn again W args v W') :
    ReturnsInHanded a C os f .any (fun w args => (s.pre enc C.prog fn conds apart w args ∧ X w args) ∧ sizedMet enc C.prog fn (OpenSpec.ofChange s) apart w args) (s.post enc C.prog fn apart fresh handsOn again) := by
  refine returnsInHanded_of_calls own started noInit witness ?_
  intro w tape i _ hsh _ hok hpre _
  obtain ⟨_, _, _, fn', hfn', _, _, _, _, hval⟩ := hok
  have e : fn' = fn := Option.some.inj (hfn'.symm.trans hfn)
  subst e
  obtain ⟨⟨⟨ds, gs, before, hw, _⟩, hx⟩, _⟩ := hpre
  have hw' := DataW.Whole.of_heap (w' := w.forCall tape i) (by rfl) hw
  refine (contract (w.forCall tape i) w.heap.size i.args ds gs before hval hw' hsh (hX _ _ _ (by rfl) hx)).mono fun e W' ⟨v, he, hp⟩ => ?_
  subst he
  exact ChangeSpec.post_blind hp

def pow10D : String × DataW Unit := ("internal/strconv.uint64pow10", Lib.tabData .u64 Lib.pow10Tab)
theorem tab_of_laid {W : World} {r : List (String × DataW Unit)} (h : laidMet Tryz.prog (pow10D :: r) W) : Tab W := by
  exact Lib.tabIs_of_head (g := 0) (t := 161) (n := 20) (e := 126) (by kernel_rfl) (by kernel_rfl) (by kernel_rfl) (by kernel_rfl) (by kernel_rfl) (by kernel_rfl) h
theorem var_below {P : Program} {w w' : World} {name : String} {cs : Array Value} (h : w.var? P name = some cs) (hb : Below w.heap.size w w') : w'.var? P name = some cs := by
  unfold World.var? at *
  cases hg : P.globalNamed name with
  | none => simp [hg] at h
  | some g =>
    simp only [hg, Option.bind_some] at h ⊢
    have hlt : g < w.heap.size := by
      rcases Nat.lt_or_ge g w.heap.size with h' | h'
      · exact h'
      · rw [Array.getElem?_eq_none h'] at h; simp at h
    rw [hb.block g hlt]
    exact h
/-- The two errors that Atoi hands on lie in their variables. -/
def Errs (w : World) : Prop := ∃ tp p tq q, w.var? Tryz.prog "strconv.ErrSyntax" = some #[.iface tp p] ∧ w.var? Tryz.prog "strconv.ErrRange" = some #[.iface tq q]
theorem Errs.to {w W : World} (h : Errs w) (hb : Below w.heap.size w W) : Errs W := by
  obtain ⟨tp, p, tq, q, a, b⟩ := h
  exact ⟨tp, p, tq, q, var_below a hb, var_below b hb⟩
theorem atoi_ok {l : List UInt8} {v : Int} (w : World) (hl : l.length ≤ 2000000) (h : Lib.atoiAll l = .ok v) :
    Calls Tryz.prog 86 #[.string (bS l)] w fun e w' => e = .returned (.tuple #[.int .i64 v, .nilIface]) ∧ ∃ x, w' = ext w x := by
  refine Calls.mono (Any.strconv_Atoi_ok Tryz.atoiS (bS l) (by rw [bS_size]; omega) v (by rw [bS_list]; exact h) w) fun e w' hh => ⟨hh.1, ?_⟩
  rcases hh.2 with rfl | ⟨t, rfl⟩
  · exact ext_same _
  · exact ext_mk (Lib.bytesWorld_below _ _ _)
theorem atoi_bad {l : List UInt8} (w : World) (hl : l.length ≤ 2000000) (h : ∀ v, Lib.atoiAll l ≠ .ok v) (hE : Errs w) :
    Calls Tryz.prog 86 #[.string (bS l)] w fun e w' => ∃ v T N, e = .returned (.tuple #[.int .i64 v, .iface T (.pointer (some ⟨N, 0, none⟩))]) ∧ ∃ x, w' = ext w x := by
  obtain ⟨tp, p, tq, q, a, b⟩ := hE
  have hz : (bS l).size ≤ 281474976710656 := by rw [bS_size]; omega
  cases hc : Lib.atoiAll l
  · exact absurd hc (h _)
  · refine Calls.mono (Any.strconv_Atoi_syntax_var Tryz.atoiS (bS l) hz (by rw [bS_list]; exact hc) tp p w a) fun e w' hh => ?_
    obtain ⟨N, he, _, _, hb⟩ := hh
    exact ⟨_, _, N, he, ext_mk hb⟩
  · refine Calls.mono (Any.strconv_Atoi_range_var Tryz.atoiS (bS l) hz (by rw [bS_list]; exact hc) tq q w b) fun e w' hh => ?_
    obtain ⟨N, he, _, _, hb⟩ := hh
    exact ⟨_, _, N, he, ext_mk hb⟩
def synD : String × DataW Unit := ("strconv.ErrSyntax", .iface "*errors.errorString" (.ptr (.agg [.lit (.string [105, 110, 118, 97, 108, 105, 100, 32, 115, 121, 110, 116, 97, 120])])))
def rngD : String × DataW Unit := ("strconv.ErrRange", .iface "*errors.errorString" (.ptr (.agg [.lit (.string [118, 97, 108, 117, 101, 32, 111, 117, 116, 32, 111, 102, 32, 114, 97, 110, 103, 101])])))
theorem star_err : "*" ++ "errors.errorString" = "*errors.errorString" := by decide
theorem err_row (u : TypeId) (h : Tryz.prog.typeName? 3 u = some "*errors.errorString") : u = 221 :=
  typeName_ptr_named (nm := "errors.errorString") (by rw [star_err]; kernel_rfl) (by kernel_rfl) (by decide) u (by rw [star_err]; exact h)
theorem err_of_laid {W : World} {n : String} {text : List UInt8} {r : List (String × DataW Unit)} {g : Nat} (h : laidMet Tryz.prog ((n, .iface "*errors.errorString" (.ptr (.agg [.lit (.string text)]))) :: r) W)
    (hg : Tryz.prog.globalNamed n = some g) (ht : (Tryz.prog.globals[g]?).map (·.type) = some 51) : ∃ tp p, W.var? Tryz.prog n = some #[.iface tp p] := by
  obtain ⟨a0, s0, hv, _⟩ := laid_sentinel h hg ht Tryz.underlying51 err_row Tryz.underlying221 Tryz.underlying223 rfl rfl Tryz.underlying9 (by kernel_rfl) (by kernel_rfl)
  exact ⟨_, _, hv⟩
theorem errs_of_laid {W : World} {r : List (String × DataW Unit)} (h : laidMet Tryz.prog (rngD :: synD :: r) W) : Errs W := by
  obtain ⟨tq, q, b⟩ := err_of_laid (n := "strconv.ErrRange") (g := 3) h (by kernel_rfl) (by kernel_rfl)
  obtain ⟨tp, p, a⟩ := err_of_laid (n := "strconv.ErrSyntax") (g := 2) (laidMet.tail h) (by kernel_rfl) (by kernel_rfl)
  exact ⟨tp, p, tq, q, a, b⟩
/-- The library's own number lies in its variable, whatever it is. -/
def MaxL (w : World) : Prop := ∃ m, w.cell? ⟨Tryz.cutS_ren.g 1, 0, none⟩ = some (.int .i64 m)
theorem MaxL.to {w W : World} (h : MaxL w) (hb : Below w.heap.size w W) : MaxL W := by
  obtain ⟨m, hm⟩ := h
  exact ⟨m, (hb.cell (World.block_lt_of_cell? w _ hm)).trans hm⟩
theorem maxL_of {w : World} (h : w.ShapedOpen Tryz.prog) : MaxL w := Tryz.cutS.s1_3 w h
theorem cut_any (l : List UInt8) (c : UInt8) (w : World) (hl : l.length ≤ 2000000) (hM : MaxL w) :
    Calls Tryz.prog 85 #[.string (bS l), .string (bS [c])] w fun e w' => e = .returned (.tuple #[.string (bS (Lib.cut l [c]).1), .string (bS (Lib.cut l [c]).2.1), .bool (Lib.cut l [c]).2.2]) ∧ ∃ x, w' = ext w x := by
  obtain ⟨m, hm⟩ := hM
  have h := Any.strings_Cut (ρ := Tryz.cutS_ren) { Tryz.cutS with } (bS l) (bS [c]) m w (by rw [bS_size]; omega) hm
  refine Calls.mono h fun e w' hh => ⟨?_, ?_⟩
  · have := hh.1
    rw [bS_list, bS_list] at this
    exact this
  · obtain ⟨_, n, rfl⟩ := hh
    exact ext_mk ⟨rfl, rfl, rfl, Nat.le_refl _, fun _ _ => rfl⟩
end Go.Proofs.YtnddfdhfefconaaGreatDoor
namespace Go.Proofs.YtnddfdhfefconaaGreatDoor
open Go.RowKit

theorem blk_keep {w W : World} {g : Nat} {o : Obj} (h : w.heap[g]? = some o) (hb : Below w.heap.size w W) : W.heap[g]? = some o := (hb.block g (heap_lt h)).trans h
theorem box4_1 {w : World} {g : Nat} {T : TypeId} {p q r s : Value} (h : w.heap[g]? = some (.cells #[p, q, r, s] T (0, 0))) (a : Value) : (w.setCell ⟨g, 0, none⟩ a).heap[g]? = some (.cells #[a, q, r, s] T (0, 0)) := by
  simp [World.setCell, Array.getElem?_modify, h]
theorem box4_2 {w : World} {g : Nat} {T : TypeId} {p q r s : Value} (h : w.heap[g]? = some (.cells #[p, q, r, s] T (0, 0))) (a : Value) : (w.setCell ⟨g, 1, none⟩ a).heap[g]? = some (.cells #[p, a, r, s] T (0, 0)) := by
  simp [World.setCell, Array.getElem?_modify, h]
theorem box4_3 {w : World} {g : Nat} {T : TypeId} {p q r s : Value} (h : w.heap[g]? = some (.cells #[p, q, r, s] T (0, 0))) (a : Value) : (w.setCell ⟨g, 2, none⟩ a).heap[g]? = some (.cells #[p, q, a, s] T (0, 0)) := by
  simp [World.setCell, Array.getElem?_modify, h]
theorem box4_4 {w : World} {g : Nat} {T : TypeId} {p q r s : Value} (h : w.heap[g]? = some (.cells #[p, q, r, s] T (0, 0))) (a : Value) : (w.setCell ⟨g, 3, none⟩ a).heap[g]? = some (.cells #[p, q, r, a] T (0, 0)) := by
  simp [World.setCell, Array.getElem?_modify, h]
end Go.Proofs.YtnddfdhfefconaaGreatDoor
