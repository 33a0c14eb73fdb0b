
/- Texts of points, plain: what both EncodePoints and both DecodePoints compute. -/
import Derived.Test.YtnddfdhfefconaaGreatDoorStrs
import Derived.Test.YtnddfdhfefconaaGreatDoorFunc
import Derived.Lib.Join
set_option linter.unusedVariables false
set_option linter.unusedSimpArgs false
namespace Go.Proofs.YtnddfdhfefconaaGreatDoor
open Go.RowKit

/-- The text of a point. -/
def ptT (p : Pt) : List UInt8 := (Lib.itoa p.x ++ [32]) ++ Lib.itoa p.y
def encL (ps : List Pt) : List UInt8 := Lib.join (ps.map ptT) [44]
def encE (ps : List Pt) : List UInt8 := if listOk ps = true then encL ps else []
theorem itoa_no {c : UInt8} (hc : c.toNat = 32 ∨ c.toNat = 44) (z : Int) : c ∉ Lib.itoa z := fun hz => by
  have := itoa_mem z _ hz
  omega
theorem ptT_no (p : Pt) : (44 : UInt8) ∉ ptT p := by
  unfold ptT
  simp only [List.mem_append, List.mem_singleton, not_or]
  exact ⟨⟨itoa_no (.inr rfl) _, by decide⟩, itoa_no (.inr rfl) _⟩
theorem ptT_cut (p : Pt) : Lib.cut (ptT p) [32] = (Lib.itoa p.x, Lib.itoa p.y, true) := by
  unfold ptT
  rw [List.append_assoc]
  exact cut_at (itoa_no (.inl rfl) _)
theorem ptT_ne (p : Pt) : ptT p ≠ [] := by unfold ptT; simp
theorem join_two (x y : List UInt8) (r : List (List UInt8)) (s : List UInt8) : Lib.join (x :: y :: r) s = x ++ (s ++ Lib.join (y :: r) s) := by
  rw [Lib.join_cons, Lib.join_cons]; simp [Lib.joinTail]
theorem join_snoc {xs : List (List UInt8)} (h : xs ≠ []) (y s : List UInt8) : Lib.join (xs ++ [y]) s = (Lib.join xs s ++ s) ++ y := by
  cases xs with
  | nil => exact absurd rfl h
  | cons x r => rw [List.cons_append, Lib.join_cons, Lib.join_cons]; simp [Lib.joinTail, List.append_assoc]
theorem join_len {M : Nat} : ∀ (xs : List (List UInt8)) (c : UInt8), (∀ x ∈ xs, x.length ≤ M) → (Lib.join xs [c]).length ≤ (M + 1) * xs.length
  | [], c, _ => by simp [Lib.join_nil]
  | [x], c, h => by rw [Lib.join_one]; have := h x (by simp); simp; omega
  | x :: y :: r, c, h => by
    have h1 := h x (by simp)
    have h2 := join_len (y :: r) c (fun z hz => h z (List.mem_cons_of_mem _ hz))
    have e : (x :: y :: r).length = (y :: r).length + 1 := rfl
    rw [join_two, List.length_append, List.length_append, e, Nat.mul_succ]
    simp only [List.length_singleton]
    omega
theorem splN_join {c : UInt8} : ∀ (xs : List (List UInt8)) (n : Nat), xs ≠ [] → (∀ x ∈ xs, c ∉ x) → xs.length ≤ n + 1 → splN (Lib.join xs [c]) c n = xs
  | [], _, h, _, _ => absurd rfl h
  | [x], n, _, h, _ => by rw [Lib.join_one]; exact splN_no (h x (by simp)) n
  | x :: y :: r, 0, _, _, h => by simp at h
  | x :: y :: r, n + 1, _, h, hn => by
    rw [join_two]
    show splN (x ++ c :: Lib.join (y :: r) [c]) c (n + 1) = _
    rw [splN_at (h x (by simp)), splN_join (y :: r) n (by simp) (fun z hz => h z (List.mem_cons_of_mem _ hz)) (by simpa using hn)]
theorem ok_bd {p : Pt} (h : p.ok = true) : (-1000 ≤ p.x ∧ p.x ≤ 1000) ∧ (-1000 ≤ p.y ∧ p.y ≤ 1000) := by
  have := vP_iff.1 h; omega
theorem listOk_1 {ps : List Pt} (h : listOk ps = true) : ps.length ≤ 20 ∧ ∀ p ∈ ps, p.ok = true := by
  unfold listOk allOk at h
  simp at h
  exact h
theorem ptT_len {p : Pt} (h : (-9223372036854775808 ≤ p.x ∧ p.x ≤ 9223372036854775807) ∧ (-9223372036854775808 ≤ p.y ∧ p.y ≤ 9223372036854775807)) : (ptT p).length ≤ 43 := by
  have h1 := itoa_len p.x h.1
  have h2 := itoa_len p.y h.2
  unfold ptT; simp; omega
theorem encL_len {ps : List Pt} (h : ∀ p ∈ ps, p.ok = true) : (encL ps).length ≤ 44 * ps.length := by
  have := join_len (M := 43) (ps.map ptT) 44 (fun x hx => by
    obtain ⟨p, hp, rfl⟩ := List.mem_map.1 hx
    have := ok_bd (h p hp)
    exact ptT_len (by omega))
  rwa [List.length_map] at this
theorem encL_snoc {ps : List Pt} (h : ps ≠ []) (p : Pt) : encL (ps ++ [p]) = (encL ps ++ [44]) ++ ptT p := by
  unfold encL
  rw [List.map_append, List.map_cons, List.map_nil]
  exact join_snoc (by simpa using h) _ _
theorem encL_ne {ps : List Pt} (h : ps ≠ []) : encL ps ≠ [] := by
  cases ps with
  | nil => exact absurd rfl h
  | cons p r =>
    unfold encL
    rw [List.map_cons, Lib.join_cons]
    intro e
    exact ptT_ne p (List.append_eq_nil_iff.1 e).1
theorem encL_nil : encL [] = [] := rfl
/-! ### reading -/
def rdP (l : List UInt8) : Pt := ⟨parI (Lib.cut l [32]).1, if (Lib.cut l [32]).2.2 = true then parI (Lib.cut l [32]).2.1 else 0⟩
def rdL (l : List UInt8) : List Pt := (splN l 44 20).map rdP
/-- What both DecodePoints answer. -/
def decL (l : List UInt8) : List Pt × Bool := if listOk (rdL l) = true ∧ encL (rdL l) = l then (rdL l, true) else ([], false)
def isL (l : List UInt8) (ps : List Pt) : Prop := ps ≠ [] ∧ listOk ps = true ∧ encL ps = l
theorem rdP_ptT {p : Pt} (h : p.ok = true) : rdP (ptT p) = p := by
  have hb := ok_bd h
  unfold rdP
  rw [ptT_cut]
  simp only [if_true]
  rw [parI_itoa (by omega), parI_itoa (by omega)]
theorem rdL_ne (l : List UInt8) : rdL l ≠ [] := by
  have := splN_ne l 44 20
  unfold rdL
  intro e
  rw [List.map_eq_nil_iff] at e
  rw [e] at this; simp at this
theorem isL_spl {l : List UInt8} {ps : List Pt} (h : isL l ps) (n : Nat) (hn : 20 ≤ n + 1) : splN l 44 n = ps.map ptT := by
  rw [← h.2.2]
  have := listOk_1 h.2.1
  refine splN_join _ n (by simpa using h.1) (fun x hx => ?_) (by rw [List.length_map]; omega)
  obtain ⟨p, _, rfl⟩ := List.mem_map.1 hx
  exact ptT_no p
theorem map_rdP : ∀ {ps : List Pt}, (∀ p ∈ ps, p.ok = true) → (ps.map ptT).map rdP = ps
  | [], _ => rfl
  | p :: r, h => by rw [List.map_cons, List.map_cons, rdP_ptT (h p (by simp)), map_rdP (fun q hq => h q (List.mem_cons_of_mem _ hq))]
theorem isL_rd {l : List UInt8} {ps : List Pt} (h : isL l ps) : rdL l = ps := by
  unfold rdL
  rw [isL_spl h 20 (by omega)]
  exact map_rdP (listOk_1 h.2.1).2
theorem decL_is {l : List UInt8} {ps : List Pt} (h : isL l ps) : decL l = (ps, true) := by
  unfold decL
  rw [isL_rd h, if_pos ⟨h.2.1, h.2.2⟩]
theorem decL_no {l : List UInt8} (h : ∀ ps, ¬ isL l ps) : decL l = ([], false) := by
  unfold decL
  rw [if_neg (fun e => h _ ⟨rdL_ne l, e.1, e.2⟩)]
theorem decL_yes {l : List UInt8} (h : (decL l).2 = true) : isL l (decL l).1 := by
  unfold decL at h ⊢
  by_cases e : listOk (rdL l) = true ∧ encL (rdL l) = l
  · rw [if_pos e]; exact ⟨rdL_ne l, e.1, e.2⟩
  · rw [if_neg e] at h; cases h
theorem decL_out {l : List UInt8} (h : (decL l).2 = false) : decL l = ([], false) := by
  unfold decL at h ⊢
  by_cases e : listOk (rdL l) = true ∧ encL (rdL l) = l
  · rw [if_pos e] at h; cases h
  · rw [if_neg e]
theorem dS_no {l : List UInt8} (h : ¬ (listOk (rdL l) = true ∧ encL (rdL l) = l)) : decL l = ([], false) := by unfold decL; rw [if_neg h]
theorem dS_yes {l : List UInt8} (h : listOk (rdL l) = true ∧ encL (rdL l) = l) : decL l = (rdL l, true) := by unfold decL; rw [if_pos h]
/-! ### the program's reading -/
def pcs (l : List UInt8) : List (List UInt8) := splN l 44 (l.length + 20)
def atO (x : List UInt8) : Option Pt := match Lib.atoiAll (Lib.cut x [32]).1, Lib.atoiAll (Lib.cut x [32]).2.1 with | .ok a, .ok b => some ⟨a, b⟩ | _, _ => none
theorem atO_ok {x : List UInt8} {a b : Int} (h1 : Lib.atoiAll (Lib.cut x [32]).1 = .ok a) (h2 : Lib.atoiAll (Lib.cut x [32]).2.1 = .ok b) : atO x = some ⟨a, b⟩ := by unfold atO; rw [h1, h2]
theorem atO_n1 {x : List UInt8} (h : ∀ v, Lib.atoiAll (Lib.cut x [32]).1 ≠ .ok v) : atO x = none := by
  unfold atO
  split
  · rename_i h1 _; exact absurd h1 (h _)
  · rfl
theorem atO_n2 {x : List UInt8} (h : ∀ v, Lib.atoiAll (Lib.cut x [32]).2.1 ≠ .ok v) : atO x = none := by
  unfold atO
  split
  · rename_i h1; exact absurd h1 (h _)
  · rfl
theorem atO_ptT {p : Pt} (h : p.ok = true) : atO (ptT p) = some p := by
  have hb := ok_bd h
  rw [atO_ok (a := p.x) (b := p.y) (by rw [ptT_cut]; exact atoi_itoa (by omega)) (by rw [ptT_cut]; exact atoi_itoa (by omega))]
theorem map_atO : ∀ {ps : List Pt}, (∀ p ∈ ps, p.ok = true) → (ps.map ptT).map atO = ps.map some
  | [], _ => rfl
  | p :: r, h => by rw [List.map_cons, List.map_cons, atO_ptT (h p (by simp)), map_atO (fun q hq => h q (List.mem_cons_of_mem _ hq)), List.map_cons]
theorem isL_pcs {l : List UInt8} {ps : List Pt} (h : isL l ps) : (pcs l).map atO = ps.map some := by
  unfold pcs
  rw [isL_spl h _ (by omega)]
  exact map_atO (listOk_1 h.2.1).2
theorem map_some_inj : ∀ {a b : List Pt}, a.map some = b.map some → a = b
  | [], [], _ => rfl
  | [], _ :: _, h => by simp at h
  | _ :: _, [], h => by simp at h
  | x :: a, y :: b, h => by
    rw [List.map_cons, List.map_cons, List.cons_eq_cons] at h
    rw [Option.some.inj h.1, map_some_inj h.2]
theorem dI_bad {l x : List UInt8} (hx : x ∈ pcs l) (h : atO x = none) : decL l = ([], false) := decL_no fun ps hp => by
  have := isL_pcs hp
  have hm : none ∈ (pcs l).map atO := by rw [← h]; exact List.mem_map_of_mem hx
  rw [this] at hm
  simp at hm
theorem pcs_nil : pcs [] = [[]] := by unfold pcs; exact splN_no (by simp) _
theorem atO_nil : atO [] = none := by
  have h : Lib.atoiAll (Lib.cut [] [32]).1 = Lib.atoiAll [] := by rw [cut_no (by simp)]
  refine atO_n1 fun v hv => ?_
  rw [h] at hv
  simp [Lib.atoiAll] at hv
theorem dI_ok {l : List UInt8} {out : List Pt} (h : (pcs l).map atO = out.map some) : decL l = if encE out = l then (out, true) else ([], false) := by
  have hl : l ≠ [] := fun e => by
    rw [e, pcs_nil, List.map_cons, atO_nil] at h
    cases out with
    | nil => simp at h
    | cons p r => simp at h
  by_cases he : encE out = l
  · rw [if_pos he]
    refine decL_is ?_
    unfold encE at he
    by_cases ho : listOk out = true
    · rw [if_pos ho] at he
      refine ⟨fun e => hl (by rw [← he, e]; rfl), ho, he⟩
    · rw [if_neg ho] at he; exact absurd he.symm hl
  · rw [if_neg he]
    refine decL_no fun ps hp => he ?_
    have e : ps = out := map_some_inj (by rw [← isL_pcs hp, h])
    rw [← e]
    unfold encE
    rw [if_pos hp.2.1, hp.2.2]
theorem pcs_len (l : List UInt8) : (pcs l).length ≤ l.length + 1 := by
  have key : ∀ (n : Nat) (m : List UInt8), (splN m 44 n).length ≤ m.length + 1 := by
    intro n
    induction n with
    | zero => intro m; simp [splN]
    | succ n ih =>
      intro m
      rcases split_at m 44 with h | ⟨a, b, rfl, ha⟩
      · rw [splN_no h]; simp
      · rw [splN_at ha]; have := ih b; simp; omega
  exact key _ l
/-! ### both laws -/
theorem dec_enc {ps : List Pt} (h : encE ps ≠ []) : decL (encE ps) = (ps, true) := by
  unfold encE at h ⊢
  by_cases ho : listOk ps = true
  · rw [if_pos ho] at h ⊢
    exact decL_is ⟨fun e => h (by rw [e]; rfl), ho, rfl⟩
  · rw [if_neg ho] at h; exact absurd rfl h
theorem enc_dec {l : List UInt8} (h : (decL l).2 = true) : encE (decL l).1 = l ∧ (decL l).1 ≠ [] := by
  obtain ⟨h1, h2, h3⟩ := decL_yes h
  refine ⟨?_, h1⟩
  unfold encE
  rw [if_pos h2, h3]
end Go.Proofs.YtnddfdhfefconaaGreatDoor
