
/- Rings of places, ears, what is left behind an ear. No program in sight. -/
import Derived.Test.YtcebmcbglhkkfaaCanM
import Derived.Test.YtcebmcbglhkkfaaFunc
import Derived.Test.YtcebmcbglhkkfaaTri
set_option linter.unusedVariables false
set_option linter.unusedSimpArgs false
namespace Go.Proofs.Ytcebmcbglhkkfaa
open Go.RowKit

/-- The vertices counterclockwise, from 0 on. -/
def rgI (ps : List Pt) (i : Nat) : Nat := if areaL ps < 0 then (ps.length - i) % ps.length else i
def rgTo (ps : List Pt) (k : Nat) : List Int := (List.range k).map fun i => (rgI ps i : Int)
def rgL (ps : List Pt) : List Int := rgTo ps ps.length
theorem rgTo_len (ps : List Pt) (k : Nat) : (rgTo ps k).length = k := by simp [rgTo]
theorem rgTo_succ (ps : List Pt) (k : Nat) : rgTo ps (k + 1) = rgTo ps k ++ [(rgI ps k : Int)] := by unfold rgTo; rw [List.range_succ, List.map_append]; rfl
theorem rgL_at {ps : List Pt} {i : Nat} (hi : i < ps.length) : gi (rgL ps) i = (rgI ps i : Int) := by
  unfold gi rgL rgTo
  rw [List.getD_eq_getElem?_getD, List.getElem?_map, List.getElem?_range hi]; rfl
theorem rgI_lt {ps : List Pt} {i : Nat} (hi : i < ps.length) : rgI ps i < ps.length := by
  unfold rgI; split
  · exact Nat.mod_lt _ (by omega)
  · exact hi
theorem rgI_inv {ps : List Pt} {i : Nat} (hi : i < ps.length) : rgI ps (rgI ps i) = i := by
  unfold rgI
  split
  · by_cases h0 : i = 0
    · subst h0
      rw [Nat.sub_zero, Nat.mod_self, Nat.sub_zero, Nat.mod_self]
    · rw [Nat.mod_eq_of_lt (show ps.length - i < ps.length by omega), show ps.length - (ps.length - i) = i by omega]
      exact Nat.mod_eq_of_lt hi
  · rfl
theorem rgI_inj {ps : List Pt} {i j : Nat} (hi : i < ps.length) (hj : j < ps.length) (h : rgI ps i = rgI ps j) : i = j := by
  rw [← rgI_inv hi, h, rgI_inv hj]

def gn (rs : List Nat) (k : Nat) : Nat := rs.getD k 0
theorem gn_lt {rs : List Nat} {k : Nat} (h : k < rs.length) : gn rs k = rs[k] := by unfold gn; rw [List.getD_eq_getElem?_getD, List.getElem?_eq_getElem h]; rfl
theorem gn_mem {rs : List Nat} {k : Nat} (h : k < rs.length) : gn rs k ∈ rs := by rw [gn_lt h]; exact List.getElem_mem h
theorem gn_of_mem {rs : List Nat} {i : Nat} (h : i ∈ rs) : ∃ k, k < rs.length ∧ gn rs k = i := by
  obtain ⟨k, hk, rfl⟩ := List.getElem_of_mem h
  exact ⟨k, hk, gn_lt hk⟩
theorem gn_inj {rs : List Nat} (h : rs.Nodup) {i k : Nat} (hi : i < rs.length) (hk : k < rs.length) (e : gn rs i = gn rs k) : i = k := by
  rw [gn_lt hi, gn_lt hk] at e
  rcases Nat.lt_trichotomy i k with hh | hh | hh
  · exact absurd e (List.pairwise_iff_getElem.1 h i k hi hk hh)
  · exact hh
  · exact absurd e.symm (List.pairwise_iff_getElem.1 h k i hk hi hh)
/-- The places as numbers. -/
def zI (rs : List Nat) : List Int := rs.map fun i : Nat => (i : Int)
theorem zI_len (rs : List Nat) : (zI rs).length = rs.length := by simp [zI]
theorem gi_zI (rs : List Nat) (k : Nat) : gi (zI rs) k = (gn rs k : Int) := by
  unfold gi zI gn
  rw [List.getD_eq_getElem?_getD, List.getD_eq_getElem?_getD, List.getElem?_map]
  cases rs[k]? <;> rfl
/-- The points of a ring of places. -/
def rpt (ps : List Pt) (rs : List Nat) : List Pt := rs.map (gp ps)
theorem rpt_len (ps : List Pt) (rs : List Nat) : (rpt ps rs).length = rs.length := by simp [rpt]
theorem gp_rpt (ps : List Pt) {rs : List Nat} {k : Nat} (h : k < rs.length) : gp (rpt ps rs) k = gp ps (gn rs k) := by
  rw [gn_lt h]
  unfold rpt
  rw [gp_lt (by simpa using h)]
  simp
/-- All the vertices counterclockwise. -/
def rgN (ps : List Pt) : List Nat := (List.range ps.length).map (rgI ps)
theorem rgN_len (ps : List Pt) : (rgN ps).length = ps.length := by simp [rgN]
theorem rgN_at {ps : List Pt} {k : Nat} (h : k < ps.length) : gn (rgN ps) k = rgI ps k := by
  rw [gn_lt (by rw [rgN_len]; exact h)]; simp [rgN]
theorem zI_rgN (ps : List Pt) : zI (rgN ps) = rgL ps := by
  unfold zI rgN rgL rgTo
  rw [List.map_map]; rfl

structure RingOk (ps : List Pt) (rs : List Nat) : Prop where
  nodup : rs.Nodup
  lt : ∀ i ∈ rs, i < ps.length
  sim : Sim (rpt ps rs)
  lft : Lft (rpt ps rs) = 1

theorem RingOk.three {ps : List Pt} {rs : List Nat} (h : RingOk ps rs) : 3 ≤ rs.length := by have := h.sim.three; rwa [rpt_len] at this
theorem RingOk.at_lt {ps : List Pt} {rs : List Nat} (h : RingOk ps rs) {k : Nat} (hk : k < rs.length) : gn rs k < ps.length := h.lt _ (gn_mem hk)

/-! ### the first ring -/
theorem rpt_rgN {ps : List Pt} : rpt ps (rgN ps) = if areaL ps < 0 then rotP ps.reverse (ps.length - 1) else ps := by
  refine gp_ext ?_ fun j hj => ?_
  · rw [rpt_len, rgN_len]
    split
    · rw [rotP_len, List.length_reverse]
    · rfl
  · rw [rpt_len, rgN_len] at hj
    rw [gp_rpt ps (by rw [rgN_len]; exact hj), rgN_at hj]
    unfold rgI
    split
    · have hl : ps.reverse.length = ps.length := List.length_reverse ..
      rw [rotP_at (by rw [hl]; omega) (by rw [hl]; exact hj), hl, rev_at (Nat.mod_lt _ (by omega))]
      congr 1
      by_cases h0 : j = 0
      · subst h0
        rw [Nat.sub_zero, Nat.mod_self, Nat.add_zero, Nat.mod_eq_of_lt (by omega)]; omega
      · rw [Nat.mod_eq_of_lt (show ps.length - j < ps.length by omega), show ps.length - 1 + j = j - 1 + ps.length by omega, Nat.add_mod_right, Nat.mod_eq_of_lt (show j - 1 < ps.length by omega)]; omega
    · rfl
theorem rgN_nodup (ps : List Pt) : (rgN ps).Nodup := by
  unfold rgN
  refine List.pairwise_iff_getElem.2 fun i j hi hj hij => ?_
  rw [List.length_map, List.length_range] at hi hj
  rw [List.getElem_map, List.getElem_map, List.getElem_range, List.getElem_range]
  exact fun e => by have := rgI_inj hi hj e; omega
theorem rgN_lt {ps : List Pt} {i : Nat} (h : i ∈ rgN ps) : i < ps.length := by
  unfold rgN at h
  obtain ⟨j, hj, rfl⟩ := List.mem_map.1 h
  exact rgI_lt (List.mem_range.1 hj)
theorem ring_first {ps : List Pt} (h : simB ps = true) : RingOk ps (rgN ps) := by
  have h3 := (sim_of h).three
  refine ⟨rgN_nodup ps, fun i hi => rgN_lt hi, ?_, ?_⟩ <;> rw [rpt_rgN]
  · split
    · exact sim_of (rot_sim (rev_sim h) (by rw [List.length_reverse]; omega))
    · exact sim_of h
  · split
    · rename_i ha
      rcases area_sgn (rot_sim (k := ps.length - 1) (rev_sim h) (by rw [List.length_reverse]; omega)) with hh | hh
      · exact hh.1
      · rw [area_rot (by rw [List.length_reverse]; omega), area_rev] at hh; omega
    · rcases area_sgn h with hh | hh
      · exact hh.1
      · omega

/-! ### ears -/
def triN (ps : List Pt) (a b c k : Nat) : Bool := !(decide (k = a) || decide (k = b) || decide (k = c)) && triB (gp ps a) (gp ps b) (gp ps c) (gp ps k)
/-- The place before, behind. -/
def bef (rs : List Nat) (k : Nat) : Nat := gn rs ((k + rs.length - 1) % rs.length)
def aft (rs : List Nat) (k : Nat) : Nat := gn rs ((k + 1) % rs.length)
def earB (ps : List Pt) (rs : List Nat) (k : Nat) : Bool :=
  decide (0 < trn (gp ps (bef rs k)) (gp ps (gn rs k)) (gp ps (aft rs k))) && !(List.range rs.length).any fun j => triN ps (bef rs k) (gn rs k) (aft rs k) (gn rs j)
theorem inT_triB {a b c q : Pt} (h : 0 < trn a b c) : triB a b c q = true ↔ InT a b c q := by
  rw [triB_p h]
  simp only [Bool.and_eq_true, decide_eq_true_eq]
  unfold InT
  have e : ∀ u : Int, 0 ≤ sgn u ↔ 0 ≤ u := fun u => by unfold sgn; split <;> (try split) <;> omega
  rw [e, e, e]
  exact ⟨fun h => ⟨h.1.1, h.1.2, h.2⟩, fun h => ⟨⟨h.1, h.2.1⟩, h.2.2⟩⟩
theorem ear_iff {ps : List Pt} {rs : List Nat} (h : RingOk ps rs) {k : Nat} (hk : k < rs.length) : earB ps rs k = true ↔ EarAt (rpt ps rs) ((k + rs.length - 1) % rs.length) := by
  have h3 := h.three
  obtain ⟨p1, p2⟩ := pred_ex hk
  have p3 : ((k + rs.length - 1) % rs.length + 2) % rs.length = (k + 1) % rs.length := by rw [← mod2, p2]
  have p4 : (k + 1) % rs.length < rs.length := Nat.mod_lt _ (by omega)
  unfold EarAt earB
  rw [rpt_len, p2, p3, gp_rpt ps p1, gp_rpt ps hk, gp_rpt ps p4]
  unfold bef aft
  rw [Bool.and_eq_true, decide_eq_true_eq, Bool.not_eq_true', ← Bool.not_eq_true, List.any_eq_true]
  refine and_congr_right fun ht => ?_
  constructor
  · intro hn j hj j1 j2 j3 hT
    refine hn ⟨j, List.mem_range.2 hj, ?_⟩
    unfold triN
    rw [gp_rpt ps hj] at hT
    rw [Bool.and_eq_true, (inT_triB ht).2 hT]
    refine ⟨?_, rfl⟩
    rw [Bool.not_eq_true', Bool.or_eq_false_iff, Bool.or_eq_false_iff, decide_eq_false_iff_not, decide_eq_false_iff_not, decide_eq_false_iff_not]
    exact ⟨⟨fun e => j1 (gn_inj h.nodup hj p1 e), fun e => j2 (gn_inj h.nodup hj hk e)⟩, fun e => j3 (gn_inj h.nodup hj p4 e)⟩
  · rintro hn ⟨j, hj, hT⟩
    have hj := List.mem_range.1 hj
    unfold triN at hT
    rw [Bool.and_eq_true, Bool.not_eq_true', Bool.or_eq_false_iff, Bool.or_eq_false_iff, decide_eq_false_iff_not, decide_eq_false_iff_not, decide_eq_false_iff_not, inT_triB ht] at hT
    obtain ⟨⟨⟨t1, t2⟩, t3⟩, t4⟩ := hT
    refine hn j hj (fun e => t1 (by rw [e])) (fun e => t2 (by rw [e])) (fun e => t3 (by rw [e])) ?_
    rw [gp_rpt ps hj]; exact t4
theorem pred_back {n i : Nat} (hi : i < n) : ((i + 1) % n + n - 1) % n = i := by
  rw [mod_next hi]
  split
  · rw [Nat.zero_add, Nat.mod_eq_of_lt (by omega)]; omega
  · rw [show i + 1 + n - 1 = i + n by omega, Nat.add_mod_right]; exact Nat.mod_eq_of_lt hi
/-- Two ears that are not neighbours. -/
theorem ring_ears {ps : List Pt} {rs : List Nat} (h : RingOk ps rs) (h4 : 4 ≤ rs.length) : ∃ a b, a < rs.length ∧ b < rs.length ∧ a ≠ b ∧ earB ps rs a = true ∧ earB ps rs b = true := by
  obtain ⟨a, b, ha, hb, hne, _, _, ea, eb⟩ := two_ears _ _ rfl h.sim (by rw [rpt_len]; exact h4) h.lft
  rw [rpt_len] at ha hb
  have ma := Nat.mod_lt (a + 1) (show 0 < rs.length by omega)
  have mb := Nat.mod_lt (b + 1) (show 0 < rs.length by omega)
  refine ⟨(a + 1) % rs.length, (b + 1) % rs.length, ma, mb, fun e => hne ?_, ?_, ?_⟩
  · rw [← pred_back ha, e, pred_back hb]
  · rw [ear_iff h ma, pred_back ha]; exact ea
  · rw [ear_iff h mb, pred_back hb]; exact eb
/-- Three corners: each is an ear. -/
theorem ring_three {ps : List Pt} {rs : List Nat} (h : RingOk ps rs) (h3 : rs.length = 3) {k : Nat} (hk : k < rs.length) : earB ps rs k = true := by
  have A := sgn_ok _ _ rfl h.sim
  unfold SgnOk at A
  rw [h.lft] at A
  have A : 0 < areaL (rpt ps rs) := by omega
  have e3 : rpt ps rs = [gp ps (gn rs 0), gp ps (gn rs 1), gp ps (gn rs 2)] := by
    refine gp_ext (by rw [rpt_len, h3]; rfl) fun j hj => ?_
    rw [rpt_len, h3] at hj
    rw [gp_rpt ps (by omega)]
    match j, hj with
    | 0, _ => rfl
    | 1, _ => rfl
    | 2, _ => rfl
  rw [e3, area3] at A
  unfold earB bef aft
  rw [h3] at hk ⊢
  have t : ∀ x y z j, (∀ i, i < 3 → i = x ∨ i = y ∨ i = z) → j < 3 → triN ps (gn rs x) (gn rs y) (gn rs z) (gn rs j) = false := fun x y z j hx hj => by
    unfold triN
    rcases hx j hj with e | e | e <;> rw [e] <;> simp
  rw [Bool.and_eq_true, decide_eq_true_eq, Bool.not_eq_true', List.any_eq_false]
  match k, hk with
  | 0, _ => exact ⟨by have := trn_r2 (gp ps (gn rs 0)) (gp ps (gn rs 1)) (gp ps (gn rs 2)); show 0 < trn (gp ps (gn rs 2)) (gp ps (gn rs 0)) (gp ps (gn rs 1)); omega, fun j hj => by rw [t _ _ _ j (fun i hi => by omega) (List.mem_range.1 hj)]; decide⟩
  | 1, _ => exact ⟨A, fun j hj => by rw [t _ _ _ j (fun i hi => by omega) (List.mem_range.1 hj)]; decide⟩
  | 2, _ => exact ⟨by have := trn_r1 (gp ps (gn rs 0)) (gp ps (gn rs 1)) (gp ps (gn rs 2)); show 0 < trn (gp ps (gn rs 1)) (gp ps (gn rs 2)) (gp ps (gn rs 0)); omega, fun j hj => by rw [t _ _ _ j (fun i hi => by omega) (List.mem_range.1 hj)]; decide⟩

/-! ### what is left behind an ear -/
theorem gn_erase {rs : List Nat} {k j : Nat} (hk : k < rs.length) (hj : j < rs.length - 1) : gn (rs.eraseIdx k) j = if j < k then gn rs j else gn rs (j + 1) := by
  have hl : (rs.eraseIdx k).length = rs.length - 1 := List.length_eraseIdx_of_lt hk
  rw [gn_lt (by omega), List.getElem_eraseIdx]
  split
  · rw [gn_lt]
  · rw [gn_lt]
theorem ear_arc {ps : List Pt} {rs : List Nat} (h : RingOk ps rs) (h4 : 4 ≤ rs.length) {k : Nat} (hk : k < rs.length) :
    rpt ps (rs.eraseIdx k) = rotP (arc (rpt ps rs) ((k + 1) % rs.length) (rs.length - 2)) ((rs.length - 1 - k) % (rs.length - 1)) := by
  have hl : (rs.eraseIdx k).length = rs.length - 1 := List.length_eraseIdx_of_lt hk
  have ha : (arc (rpt ps rs) ((k + 1) % rs.length) (rs.length - 2)).length = rs.length - 1 := by rw [arc_len]; omega
  refine gp_ext (by rw [rpt_len, hl, rotP_len, ha]) fun j hj => ?_
  rw [rpt_len, hl] at hj
  rw [gp_rpt ps (by omega), gn_erase hk hj, rotP_at (by rw [ha]; exact Nat.mod_lt _ (by omega)) (by rw [ha]; exact hj), ha]
  have hm : ((rs.length - 1 - k) % (rs.length - 1) + j) % (rs.length - 1) ≤ rs.length - 2 := by have := Nat.mod_lt ((rs.length - 1 - k) % (rs.length - 1) + j) (show 0 < rs.length - 1 by omega); omega
  rw [arc_at _ hm, rpt_len, gp_rpt ps (Nat.mod_lt _ (by omega)), Nat.mod_add_mod]
  rw [Nat.mod_add_mod (rs.length - 1 - k)]
  by_cases hjk : j < k
  · rw [if_pos hjk, Nat.mod_eq_of_lt (show rs.length - 1 - k + j < rs.length - 1 by omega), show k + 1 + (rs.length - 1 - k + j) = j + rs.length by omega, Nat.add_mod_right, Nat.mod_eq_of_lt (show j < rs.length by omega)]
  · rw [if_neg hjk, show rs.length - 1 - k + j = (j - k) + (rs.length - 1) by omega, Nat.add_mod_right, Nat.mod_eq_of_lt (show j - k < rs.length - 1 by omega), Nat.mod_eq_of_lt (by omega)]
    congr 2; omega
/-- The chord over an ear. -/
theorem ear_cho {ps : List Pt} {rs : List Nat} (h : RingOk ps rs) (h4 : 4 ≤ rs.length) {k : Nat} (hk : k < rs.length) (he : earB ps rs k = true) : Cho (rpt ps rs) ((k + 1) % rs.length) ((k + rs.length - 1) % rs.length) := by
  rw [ear_iff h hk] at he
  obtain ⟨p1, p2⟩ := pred_ex hk
  have p3 : ((k + rs.length - 1) % rs.length + 2) % rs.length = (k + 1) % rs.length := by rw [← mod2, p2]
  have c := (cor_of h.sim (by rw [rpt_len]; exact h4) (i := (k + rs.length - 1) % rs.length) (by rw [rpt_len]; exact p1)).1 he.1
  have := cor_ear h.sim c (by rw [rpt_len]; exact h4) he.2
  rw [rpt_len, p3] at this
  exact this
theorem ring_cut {ps : List Pt} {rs : List Nat} (h : RingOk ps rs) (h4 : 4 ≤ rs.length) {k : Nat} (hk : k < rs.length) (he : earB ps rs k = true) : RingOk ps (rs.eraseIdx k) := by
  have c := ear_cho h h4 hk he
  have hE := (ear_iff h hk).1 he
  obtain ⟨p1, p2⟩ := pred_ex hk
  have p3 : ((k + rs.length - 1) % rs.length + 2) % rs.length = (k + 1) % rs.length := by rw [← mod2, p2]
  have p4 : (k + 1) % rs.length < rs.length := Nat.mod_lt _ (by omega)
  have rl := rpt_len ps rs
  have ed : ((k + 1) % rs.length + (rs.length - 2)) % rs.length = (k + rs.length - 1) % rs.length := by
    rw [Nat.mod_add_mod]; congr 1; omega
  obtain ⟨_, _, S⟩ := arc_sim h.sim c (d := rs.length - 2) (by rw [rl]; omega) (by rw [rl]; exact ed)
  have L := (ear_rest h.sim (i := (k + rs.length - 1) % rs.length) (by rw [rl]; exact p1) (by rw [rl, p3]; exact c) hE).2
  rw [rl, p3, h.lft] at L
  have ha : (arc (rpt ps rs) ((k + 1) % rs.length) (rs.length - 2)).length = rs.length - 1 := by rw [arc_len]; omega
  have hr : (rs.length - 1 - k) % (rs.length - 1) < (arc (rpt ps rs) ((k + 1) % rs.length) (rs.length - 2)).length := by rw [ha]; exact Nat.mod_lt _ (by omega)
  have S2 := sim_rot S (rotP_len _ ((rs.length - 1 - k) % (rs.length - 1))) hr (fun j hj => rotP_at hr hj)
  refine ⟨h.nodup.sublist (List.eraseIdx_sublist ..), fun i hi => h.lt i ((List.eraseIdx_sublist ..).subset hi), by rw [ear_arc h h4 hk]; exact S2, ?_⟩
  rw [ear_arc h h4 hk]
  have A1 := sgn_ok _ _ rfl S
  have A2 := sgn_ok _ _ rfl S2
  unfold SgnOk at A1 A2
  rw [area_rot hr] at A2
  omega
/-! ### the first ear; clipping -/
def fEar (ps : List Pt) (rs : List Nat) : Nat := (firstIdx (earB ps rs) rs.length).toNat
theorem fEar_ok {ps : List Pt} {rs : List Nat} (h : RingOk ps rs) (h4 : 4 ≤ rs.length) : fEar ps rs < rs.length ∧ earB ps rs (fEar ps rs) = true ∧ firstIdx (earB ps rs) rs.length = (fEar ps rs : Int) ∧ ∀ j, j < fEar ps rs → earB ps rs j = false := by
  obtain ⟨a, _, ha, _, _, ea, _⟩ := ring_ears h h4
  have hex : ∃ k, k < rs.length ∧ earB ps rs k = true ∧ ∀ j, j < k → earB ps rs j = false := by
    have : ∀ n, (∃ k, k < n ∧ earB ps rs k = true ∧ ∀ j, j < k → earB ps rs j = false) ∨ ∀ j, j < n → earB ps rs j = false := fun n => by
      induction n with
      | zero => exact .inr fun j hj => by omega
      | succ n ih =>
        rcases ih with ⟨k, h1, h2, h3⟩ | h
        · exact .inl ⟨k, by omega, h2, h3⟩
        · by_cases he : earB ps rs n = true
          · exact .inl ⟨n, by omega, he, h⟩
          · refine .inr fun j hj => ?_
            by_cases e : j = n
            · subst e; exact eq_false_of_ne_true he
            · exact h j (by omega)
    rcases this rs.length with ⟨k, h1, h2, h3⟩ | h
    · exact ⟨k, h1, h2, h3⟩
    · rw [h a ha] at ea; cases ea
  obtain ⟨k, h1, h2, h3⟩ := hex
  have e := firstIdx_at h1 h2 h3
  have e2 : fEar ps rs = k := by unfold fEar; rw [e]; rfl
  rw [e2]
  exact ⟨h1, h2, e, h3⟩
structure Tri3 where
  a : Nat
  b : Nat
  c : Nat
  deriving DecidableEq, Inhabited
def clipT (ps : List Pt) (rs : List Nat) : Tri3 := ⟨bef rs (fEar ps rs), gn rs (fEar ps rs), aft rs (fEar ps rs)⟩
def cutR (ps : List Pt) (rs : List Nat) : List Nat := rs.eraseIdx (fEar ps rs)
def lastT (rs : List Nat) : Tri3 := ⟨gn rs 0, gn rs 1, gn rs 2⟩
/-- The triangles of a ring, f of them ahead of the last one. -/
def cutL (ps : List Pt) : Nat → List Nat → List Tri3
  | 0, rs => [lastT rs]
  | f + 1, rs => clipT ps rs :: cutL ps f (cutR ps rs)
def clipR (ps : List Pt) : Nat → List Nat
  | 0 => rgN ps
  | k + 1 => cutR ps (clipR ps k)
def clipO (ps : List Pt) (k : Nat) : List Tri3 := (List.range k).map fun j => clipT ps (clipR ps j)
def triL (ps : List Pt) : List Tri3 := cutL ps (ps.length - 3) (rgN ps)
theorem clipO_len (ps : List Pt) (k : Nat) : (clipO ps k).length = k := by simp [clipO]
theorem clipO_succ (ps : List Pt) (k : Nat) : clipO ps (k + 1) = clipO ps k ++ [clipT ps (clipR ps k)] := by unfold clipO; rw [List.range_succ, List.map_append]; rfl
theorem clip_all (ps : List Pt) : ∀ (k f : Nat), clipO ps k ++ cutL ps f (clipR ps k) = cutL ps (k + f) (rgN ps)
  | 0, f => by rw [Nat.zero_add]; rfl
  | k + 1, f => by
    have := clip_all ps k (f + 1)
    rw [show k + 1 + f = k + (f + 1) by omega, ← this, clipO_succ, List.append_assoc]; rfl
theorem clip_end (ps : List Pt) : clipO ps (ps.length - 3) ++ [lastT (clipR ps (ps.length - 3))] = triL ps := clip_all ps (ps.length - 3) 0
theorem cutL_len (ps : List Pt) : ∀ f rs, (cutL ps f rs).length = f + 1
  | 0, _ => rfl
  | f + 1, rs => by rw [show cutL ps (f + 1) rs = clipT ps rs :: cutL ps f (cutR ps rs) from rfl, List.length_cons, cutL_len ps f]
theorem cutR_ok {ps : List Pt} {rs : List Nat} (h : RingOk ps rs) (h4 : 4 ≤ rs.length) : RingOk ps (cutR ps rs) ∧ (cutR ps rs).length = rs.length - 1 := by
  obtain ⟨e1, e2, _⟩ := fEar_ok h h4
  exact ⟨ring_cut h h4 e1 e2, List.length_eraseIdx_of_lt e1⟩
theorem clip_ok {ps : List Pt} (h : simB ps = true) : ∀ k, k ≤ ps.length - 3 → RingOk ps (clipR ps k) ∧ (clipR ps k).length = ps.length - k
  | 0, _ => ⟨ring_first h, rgN_len ps⟩
  | k + 1, hk => by
    have h3 := (sim_of h).three
    obtain ⟨i1, i2⟩ := clip_ok h k (by omega)
    obtain ⟨j1, j2⟩ := cutR_ok i1 (by omega)
    exact ⟨j1, by show (cutR ps (clipR ps k)).length = _; rw [j2, i2]; omega⟩

/-! ### the ears of a polygon -/
def lineFree (ps : List Pt) : Bool := (List.range ps.length).all fun i => decide (trn (gp ps i) (gp ps ((i + 1) % ps.length)) (gp ps ((i + 2) % ps.length)) ≠ 0)
def clipB (ps : List Pt) : Bool := simB ps && lineFree ps
/-- Whether vertex v is an ear. -/
def earV (ps : List Pt) (v : Nat) : Bool := earB ps (rgN ps) (rgI ps v)
def earsTo (ps : List Pt) (k : Nat) : List Int := ((List.range k).filter (earV ps)).map fun i : Nat => (i : Int)
def earsL (ps : List Pt) : List Int := earsTo ps ps.length
end Go.Proofs.Ytcebmcbglhkkfaa
