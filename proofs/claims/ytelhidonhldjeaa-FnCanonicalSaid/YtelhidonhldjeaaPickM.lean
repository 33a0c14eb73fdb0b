/- The theorem of Pick, as far as it is one of numbers; linear maps of polygons. No program in sight. -/
import Derived.Test.YtelhidonhldjeaaRelM
import Derived.Test.YtelhidonhldjeaaAreaD
set_option linter.unusedVariables false
set_option linter.unusedSimpArgs false
namespace Go.Proofs.Ytelhidonhldjeaa
open Go.RowKit

def gcdI (a b : Int) : Int := (Int.gcd a b : Nat)
/-- Points of the boundary on the first k edges. -/
def bndTo (ps : List Pt) : Nat → Int
  | 0 => 0
  | k + 1 => bndTo ps k + gcdI ((gp ps ((k + 1) % ps.length)).x - (gp ps k).x) ((gp ps ((k + 1) % ps.length)).y - (gp ps k).y)
def bndL (ps : List Pt) : Int := bndTo ps ps.length
def absI (n : Int) : Int := if 0 ≤ n then n else -n
def intrL (ps : List Pt) : Int := (absI (areaL ps) - bndL ps + 2).tdiv 2
def intr (ps : List Pt) : Int := if simB ps then intrL ps else -1
def bnd (ps : List Pt) : Int := if simB ps then bndL ps else -1
def dblA (ps : List Pt) : Int := if simB ps then areaL ps else 0
theorem gcd_par (a b : Int) : gcdI a b % 2 = (a * b + a + b) % 2 := by
  unfold gcdI
  have hd : ∀ k : Nat, k = 2 → (((Int.gcd a b : Nat) : Int) % 2 = 0 ↔ a % 2 = 0 ∧ b % 2 = 0) := fun k hk => by
    constructor
    · intro h
      have h2 : (2 : Int) ∣ ((Int.gcd a b : Nat) : Int) := Int.dvd_of_emod_eq_zero h
      exact ⟨Int.emod_eq_zero_of_dvd (Int.dvd_trans h2 (Int.gcd_dvd_left ..)), Int.emod_eq_zero_of_dvd (Int.dvd_trans h2 (Int.gcd_dvd_right ..))⟩
    · rintro ⟨h1, h2⟩
      have := Int.dvd_coe_gcd (Int.dvd_of_emod_eq_zero h1) (Int.dvd_of_emod_eq_zero h2)
      exact Int.emod_eq_zero_of_dvd this
  have hd := hd 2 rfl
  generalize ((Int.gcd a b : Nat) : Int) = g at *
  have ea := Int.emod_two_eq a
  have eb := Int.emod_two_eq b
  have eg := Int.emod_two_eq g
  obtain ⟨p, hp⟩ : ∃ p, a = 2 * p + a % 2 := ⟨a / 2, by omega⟩
  obtain ⟨q, hq⟩ : ∃ q, b = 2 * q + b % 2 := ⟨b / 2, by omega⟩
  rcases ea with ea | ea <;> rcases eb with eb | eb <;> rw [ea] at hp <;> rw [eb] at hq <;> (have h : a * b = (2 * p + a % 2) * (2 * q + b % 2) := by rw [ea, eb, ← hp, ← hq]) <;> rw [ea, eb] at h <;> simp only [Int.add_mul, Int.mul_add, Int.mul_assoc, Int.mul_left_comm q 2] at h <;> (try generalize p * q = pq at h) <;> (try generalize q * p = qp at h) <;> (try rw [Int.mul_comm 2 q] at h) <;> omega
theorem gcd_pos {a b : Int} (h : a ≠ 0 ∨ b ≠ 0) : 1 ≤ gcdI a b := by
  unfold gcdI
  have : Int.gcd a b ≠ 0 := by
    rw [Ne, Int.gcd_eq_zero_iff]; omega
  omega
def fP (p : Pt) : Int := p.x * p.y + p.x + p.y
theorem edge_par (a b : Pt) : (crP a b + gcdI (b.x - a.x) (b.y - a.y) + fP a + fP b) % 2 = 0 := by
  have h := gcd_par (b.x - a.x) (b.y - a.y)
  have e : crP a b + ((b.x - a.x) * (b.y - a.y) + (b.x - a.x) + (b.y - a.y)) + fP a + fP b = 2 * (b.x * b.y + a.x * a.y - a.y * b.x + b.x + b.y) := by
    unfold crP fP; grind
  omega
theorem par_to {ps : List Pt} : ∀ {k : Nat}, k < ps.length → (areaTo ps k + bndTo ps k + fP (gp ps k) + fP (gp ps 0)) % 2 = 0
  | 0, _ => by unfold areaTo bndTo; omega
  | k + 1, h => by
    have ih := par_to (ps := ps) (k := k) (by omega)
    have e := edge_par (gp ps k) (gp ps (k + 1))
    unfold areaTo bndTo
    rw [Nat.mod_eq_of_lt h]
    omega
theorem par_all (ps : List Pt) : (areaL ps + bndL ps) % 2 = 0 := by
  unfold areaL bndL
  cases hn : ps.length with
  | zero => rfl
  | succ k =>
    have ih := par_to (ps := ps) (k := k) (by omega)
    have e := edge_par (gp ps k) (gp ps 0)
    unfold areaTo bndTo
    rw [hn, Nat.mod_self]
    omega
theorem absI_eq (n : Int) : absI n = n ∨ absI n = -n := by unfold absI; split <;> simp
theorem pick_area {ps : List Pt} (h : 0 ≤ intrL ps) : absI (areaL ps) = 2 * intrL ps + bndL ps - 2 := by
  have hp := par_all ps
  have ha := absI_eq (areaL ps)
  unfold intrL at h ⊢
  have he : (absI (areaL ps) - bndL ps + 2) % 2 = 0 := by omega
  obtain ⟨m, hm⟩ : ∃ m, absI (areaL ps) - bndL ps + 2 = 2 * m := ⟨(absI (areaL ps) - bndL ps + 2) / 2, by omega⟩
  rw [hm, Int.mul_tdiv_cancel_left m (by omega)] at h ⊢
  omega
theorem bnd_len {ps : List Pt} (hd : ps.Nodup) (h2 : 2 ≤ ps.length) : ∀ {k : Nat}, k ≤ ps.length → (k : Int) ≤ bndTo ps k
  | 0, _ => by simp [bndTo]
  | k + 1, h => by
    have ih := bnd_len hd h2 (k := k) (by omega)
    have hm := mod_next (show k < ps.length by omega)
    have hl : (k + 1) % ps.length < ps.length := Nat.mod_lt _ (by omega)
    have hne : gp ps ((k + 1) % ps.length) ≠ gp ps k := fun e => by
      have := gp_inj hd hl (by omega) e
      split at hm <;> omega
    have : 1 ≤ gcdI ((gp ps ((k + 1) % ps.length)).x - (gp ps k).x) ((gp ps ((k + 1) % ps.length)).y - (gp ps k).y) := gcd_pos (by
      refine Classical.byContradiction fun hh => hne (pt_eq ?_ ?_) <;> omega)
    unfold bndTo
    omega
theorem tdiv2_bd (a : Int) {M : Int} (h : -(2 * M) ≤ a ∧ a ≤ 2 * M) : -M ≤ a.tdiv 2 ∧ a.tdiv 2 ≤ M := by
  have h1 : (a.tdiv 2).natAbs = a.natAbs / 2 := by rw [Int.natAbs_tdiv]; rfl
  omega
/-! ### linear maps -/
structure Mt where
  a : Int
  b : Int
  c : Int
  d : Int
def Mt.det (m : Mt) : Int := m.a * m.d - m.b * m.c
def Mt.ap (m : Mt) (p : Pt) : Pt := ⟨m.a * p.x + m.b * p.y, m.c * p.x + m.d * p.y⟩
theorem ap_trn (m : Mt) (a b c : Pt) : trn (m.ap a) (m.ap b) (m.ap c) = m.det * trn a b c := by unfold trn Mt.ap Mt.det; grind
theorem ap_cr (m : Mt) (a b : Pt) : crP (m.ap a) (m.ap b) = m.det * crP a b := by unfold crP Mt.ap Mt.det; grind
theorem ap_inj {m : Mt} (h : m.det ≠ 0) {a b : Pt} (e : m.ap a = m.ap b) : a = b := by
  have e1 : m.a * a.x + m.b * a.y = m.a * b.x + m.b * b.y := congrArg Pt.x e
  have e2 : m.c * a.x + m.d * a.y = m.c * b.x + m.d * b.y := congrArg Pt.y e
  have k1 : m.det * (a.x - b.x) = 0 := by unfold Mt.det; grind
  have k2 : m.det * (a.y - b.y) = 0 := by unfold Mt.det; grind
  rcases Int.mul_eq_zero.1 k1 with h1 | h1
  · exact absurd h1 h
  · rcases Int.mul_eq_zero.1 k2 with h2 | h2
    · exact absurd h2 h
    · exact pt_eq (by omega) (by omega)
theorem sgn_mul (u v : Int) : sgn (u * v) = sgn u * sgn v := by
  rcases Int.lt_trichotomy u 0 with hu | hu | hu <;> rcases Int.lt_trichotomy v 0 with hv | hv | hv
  · rw [sgn_neg hu, sgn_neg hv, sgn_pos (Int.mul_pos_of_neg_of_neg hu hv)]; rfl
  · subst hv; rw [Int.mul_zero, sgn_zero rfl]; simp
  · rw [sgn_neg hu, sgn_pos hv, sgn_neg (Int.mul_neg_of_neg_of_pos hu hv)]; rfl
  · subst hu; rw [Int.zero_mul, sgn_zero rfl]; simp
  · subst hu; rw [Int.zero_mul, sgn_zero rfl]; simp
  · subst hu; rw [Int.zero_mul, sgn_zero rfl]; simp
  · rw [sgn_pos hu, sgn_neg hv, sgn_neg (Int.mul_neg_of_pos_of_neg hu hv)]; rfl
  · subst hv; rw [Int.mul_zero, sgn_zero rfl]; simp
  · rw [sgn_pos hu, sgn_pos hv, sgn_pos (Int.mul_pos hu hv)]; rfl
theorem sqn (x : Int) : 0 ≤ x * x := by
  rcases Int.le_total 0 x with h | h
  · exact Int.mul_nonneg h h
  · exact Int.mul_nonneg_of_nonpos_of_nonpos h h
theorem sq_zero {u v : Int} (h : u * u + v * v ≤ 0) : u = 0 ∧ v = 0 := by
  have h1 := sqn u
  have h2 := sqn v
  exact ⟨by have : u * u = 0 := by omega
            exact (Int.mul_eq_zero.1 this).elim id id, by have : v * v = 0 := by omega
                                                          exact (Int.mul_eq_zero.1 this).elim id id⟩
/-- Two parallel vectors: the sign of their inner product is kept. -/
theorem par_dot {u1 u2 v1 v2 : Int} (hp : u1 * v2 = u2 * v1) (m : Mt) (h : m.det ≠ 0) :
    u1 * v1 + u2 * v2 ≤ 0 ↔ (m.a * u1 + m.b * u2) * (m.a * v1 + m.b * v2) + (m.c * u1 + m.d * u2) * (m.c * v1 + m.d * v2) ≤ 0 := by
  have k : (u1 * u1 + u2 * u2) * ((m.a * u1 + m.b * u2) * (m.a * v1 + m.b * v2) + (m.c * u1 + m.d * u2) * (m.c * v1 + m.d * v2)) = (u1 * v1 + u2 * v2) * ((m.a * u1 + m.b * u2) * (m.a * u1 + m.b * u2) + (m.c * u1 + m.d * u2) * (m.c * u1 + m.d * u2)) := by
    have e1 : (u1 * u1 + u2 * u2) * v1 = (u1 * v1 + u2 * v2) * u1 := by grind
    have e2 : (u1 * u1 + u2 * u2) * v2 = (u1 * v1 + u2 * v2) * u2 := by grind
    have : (u1 * u1 + u2 * u2) * ((m.a * u1 + m.b * u2) * (m.a * v1 + m.b * v2) + (m.c * u1 + m.d * u2) * (m.c * v1 + m.d * v2)) = (m.a * u1 + m.b * u2) * (m.a * ((u1 * u1 + u2 * u2) * v1) + m.b * ((u1 * u1 + u2 * u2) * v2)) + (m.c * u1 + m.d * u2) * (m.c * ((u1 * u1 + u2 * u2) * v1) + m.d * ((u1 * u1 + u2 * u2) * v2)) := by grind
    rw [this, e1, e2]; grind
  by_cases hz : u1 * u1 + u2 * u2 ≤ 0
  · obtain ⟨z1, z2⟩ := sq_zero hz
    subst z1 z2
    simp
  · have hs : 0 < u1 * u1 + u2 * u2 := by omega
    have hs2 : 0 < (m.a * u1 + m.b * u2) * (m.a * u1 + m.b * u2) + (m.c * u1 + m.d * u2) * (m.c * u1 + m.d * u2) := by
      refine Classical.byContradiction fun hn => ?_
      obtain ⟨z1, z2⟩ := sq_zero (u := m.a * u1 + m.b * u2) (v := m.c * u1 + m.d * u2) (by omega)
      have k1 : m.det * u1 = 0 := by unfold Mt.det; grind
      have k2 : m.det * u2 = 0 := by unfold Mt.det; grind
      have y1 := (Int.mul_eq_zero.1 k1).resolve_left h
      have y2 := (Int.mul_eq_zero.1 k2).resolve_left h
      subst y1 y2
      simp at hs
    generalize u1 * u1 + u2 * u2 = S at *
    generalize (m.a * u1 + m.b * u2) * (m.a * u1 + m.b * u2) + (m.c * u1 + m.d * u2) * (m.c * u1 + m.d * u2) = S2 at *
    generalize (m.a * u1 + m.b * u2) * (m.a * v1 + m.b * v2) + (m.c * u1 + m.d * u2) * (m.c * v1 + m.d * v2) = D2 at *
    generalize u1 * v1 + u2 * v2 = D at *
    constructor
    · intro hd
      refine Classical.byContradiction fun hn => ?_
      have a1 : 0 < S * D2 := Int.mul_pos hs (by omega)
      have a2 : D * S2 ≤ 0 := Int.mul_nonpos_of_nonpos_of_nonneg hd (by omega)
      omega
    · intro hd
      refine Classical.byContradiction fun hn => ?_
      have a1 : 0 < D * S2 := Int.mul_pos (by omega) hs2
      have a2 : S * D2 ≤ 0 := Int.mul_nonpos_of_nonneg_of_nonpos (by omega) hd
      omega
theorem ap_onSeg {m : Mt} (h : m.det ≠ 0) (a b p : Pt) : onSeg (m.ap a) (m.ap b) (m.ap p) = onSeg a b p := by
  rw [Bool.eq_iff_iff]
  unfold onSeg
  simp only [Bool.and_eq_true, decide_eq_true_eq]
  rw [ap_trn]
  constructor
  · rintro ⟨h1, h2⟩
    have ht := (Int.mul_eq_zero.1 h1).resolve_left h
    refine ⟨ht, (par_dot (by unfold trn at ht; grind) m h).2 ?_⟩
    unfold Mt.ap at h2
    simp only at h2
    grind
  · rintro ⟨h1, h2⟩
    rw [h1]
    refine ⟨by simp, ?_⟩
    have := (par_dot (u1 := a.x - p.x) (u2 := a.y - p.y) (v1 := b.x - p.x) (v2 := b.y - p.y) (by unfold trn at h1; grind) m h).1 h2
    unfold Mt.ap
    simp only
    grind
def Mt.sg (m : Mt) (s : Sg) : Sg := (m.ap s.1, m.ap s.2)
theorem ap_isEnd {m : Mt} (h : m.det ≠ 0) (s : Sg) (p : Pt) : isEndB (m.sg s) (m.ap p) = isEndB s p := by
  rw [Bool.eq_iff_iff, isEnd_iff, isEnd_iff]
  unfold Mt.sg
  exact ⟨fun hh => hh.imp (ap_inj h) (ap_inj h), fun hh => hh.imp (fun e => by rw [e]) (fun e => by rw [e])⟩
theorem ap_cmn {m : Mt} (h : m.det ≠ 0) (s t : Sg) : (cmn (m.sg s) (m.sg t)).length = (cmn s t).length := by
  have e : cmn (m.sg s) (m.sg t) = (cmn s t).map m.ap := by
    unfold cmn
    rw [List.map_append, show [(m.sg s).1, (m.sg s).2] = [s.1, s.2].map m.ap from rfl, show [(m.sg t).1, (m.sg t).2] = [t.1, t.2].map m.ap from rfl, List.filter_map, List.filter_map]
    congr 2
    · congr 1
      funext p
      exact ap_onSeg h _ _ _
    · congr 1
      funext p
      show cmnB (m.sg s) (m.sg t) (m.ap p) = cmnB s t p
      unfold cmnB
      rw [ap_isEnd h, ap_isEnd h]
      congr 1
      exact ap_onSeg h _ _ _
  rw [e, List.length_map]
theorem sgn_sq {d : Int} (h : d ≠ 0) (u v : Int) : sgn (d * u) * sgn (d * v) = sgn u * sgn v := by
  rw [sgn_mul, sgn_mul]
  have : sgn d * sgn d = 1 := by
    rcases Int.lt_trichotomy d 0 with hu | hu | hu
    · rw [sgn_neg hu]; rfl
    · exact absurd hu h
    · rw [sgn_pos hu]; rfl
  have e : sgn d * sgn u * (sgn d * sgn v) = sgn d * sgn d * (sgn u * sgn v) := by grind
  rw [e, this, Int.one_mul]
theorem ap_cross {m : Mt} (h : m.det ≠ 0) (s t : Sg) : crossB (m.sg s) (m.sg t) = crossB s t := by
  unfold crossB Mt.sg
  simp only [ap_trn, sgn_sq h]
theorem ap_rel {m : Mt} (h : m.det ≠ 0) (s t : Sg) : relI (m.sg s) (m.sg t) = relI s t := by
  unfold relI; rw [ap_cmn h, ap_cross h]
theorem gp_map (m : Mt) {ps : List Pt} {i : Nat} (h : i < ps.length) : gp (ps.map m.ap) i = m.ap (gp ps i) := by
  rw [gp_lt (by simpa using h), gp_lt h]; simp
theorem ap_edge (m : Mt) {ps : List Pt} {i : Nat} (h : i < ps.length) : edgeAt (ps.map m.ap) i = m.sg (edgeAt ps i) := by
  unfold edgeAt Mt.sg
  rw [List.length_map, gp_map m h, gp_map m (Nat.mod_lt _ (by omega))]
theorem ap_nodup {m : Mt} (h : m.det ≠ 0) {ps : List Pt} (hd : ps.Nodup) : (ps.map m.ap).Nodup := by
  unfold List.Nodup
  rw [List.pairwise_map]
  exact List.Pairwise.imp (fun hne e => hne (ap_inj h e)) hd
theorem ap_simple {m : Mt} (h : m.det ≠ 0) {ps : List Pt} (hok : listOk (ps.map m.ap) = true) (hs : simB ps = true) : simB (ps.map m.ap) = true := by
  have h2 := hs
  unfold simB at h2 ⊢
  simp only [Bool.and_eq_true] at h2 ⊢
  obtain ⟨hr, hp⟩ := h2
  obtain ⟨r1, r2, r3⟩ := ring_parts hr
  refine ⟨?_, ?_⟩
  · unfold ringB
    rw [hok, sortP_nodup (ap_nodup h r3)]
    simp [r2]
  · rw [List.length_map]
    rw [pairsB_iff] at hp ⊢
    intro i hi k hk
    have := hp i hi k hk
    unfold pairI at this ⊢
    rw [List.length_map, ap_edge m hi, ap_edge m (by omega), ap_rel h]
    exact this
theorem ap_areaTo (m : Mt) (ps : List Pt) : ∀ k, k ≤ ps.length → areaTo (ps.map m.ap) k = m.det * areaTo ps k
  | 0, _ => by simp [areaTo]
  | k + 1, h => by
    unfold areaTo
    rw [ap_areaTo m ps k (by omega), List.length_map, gp_map m (by omega), gp_map m (Nat.mod_lt _ (by omega)), ap_cr, Int.mul_add]
theorem ap_area (m : Mt) (ps : List Pt) : areaL (ps.map m.ap) = m.det * areaL ps := by
  unfold areaL; rw [List.length_map]; exact ap_areaTo m ps _ (Nat.le_refl _)
theorem gcd_le {a b c d : Int} (h1 : (gcdI a b) ∣ c) (h2 : gcdI a b ∣ d) : gcdI a b ∣ gcdI c d := Int.dvd_coe_gcd h1 h2
theorem gcd_l (a b : Int) : gcdI a b ∣ a := Int.gcd_dvd_left ..
theorem gcd_r (a b : Int) : gcdI a b ∣ b := Int.gcd_dvd_right ..
theorem gcd_nn (a b : Int) : 0 ≤ gcdI a b := by unfold gcdI; omega
theorem ap_gcd {m : Mt} (h : m.det = 1 ∨ m.det = -1) (x y : Int) : gcdI (m.a * x + m.b * y) (m.c * x + m.d * y) = gcdI x y := by
  refine Int.dvd_antisymm (gcd_nn _ _) (gcd_nn _ _) (gcd_le ?_ ?_) (gcd_le ?_ ?_)
  · have e : m.det * x = m.d * (m.a * x + m.b * y) - m.b * (m.c * x + m.d * y) := by unfold Mt.det; grind
    have k : gcdI (m.a * x + m.b * y) (m.c * x + m.d * y) ∣ m.det * x := by
      rw [e]; exact Int.dvd_sub (Int.dvd_mul_of_dvd_right (gcd_l _ _)) (Int.dvd_mul_of_dvd_right (gcd_r _ _))
    rcases h with h | h <;> rw [h] at k
    · rwa [Int.one_mul] at k
    · rw [Int.neg_mul, Int.one_mul] at k; exact Int.dvd_neg.1 k
  · have e : m.det * y = m.a * (m.c * x + m.d * y) - m.c * (m.a * x + m.b * y) := by unfold Mt.det; grind
    have k : gcdI (m.a * x + m.b * y) (m.c * x + m.d * y) ∣ m.det * y := by
      rw [e]; exact Int.dvd_sub (Int.dvd_mul_of_dvd_right (gcd_r _ _)) (Int.dvd_mul_of_dvd_right (gcd_l _ _))
    rcases h with h | h <;> rw [h] at k
    · rwa [Int.one_mul] at k
    · rw [Int.neg_mul, Int.one_mul] at k; exact Int.dvd_neg.1 k
  · exact Int.dvd_add (Int.dvd_mul_of_dvd_right (gcd_l _ _)) (Int.dvd_mul_of_dvd_right (gcd_r _ _))
  · exact Int.dvd_add (Int.dvd_mul_of_dvd_right (gcd_l _ _)) (Int.dvd_mul_of_dvd_right (gcd_r _ _))
theorem ap_bndTo {m : Mt} (h : m.det = 1 ∨ m.det = -1) (ps : List Pt) : ∀ k, k ≤ ps.length → bndTo (ps.map m.ap) k = bndTo ps k
  | 0, _ => rfl
  | k + 1, hk => by
    unfold bndTo
    rw [ap_bndTo h ps k (by omega), List.length_map, gp_map m (show (k + 1) % ps.length < ps.length from Nat.mod_lt _ (by omega)), gp_map m (show k < ps.length by omega)]
    congr 1
    have := ap_gcd h ((gp ps ((k + 1) % ps.length)).x - (gp ps k).x) ((gp ps ((k + 1) % ps.length)).y - (gp ps k).y)
    rw [← this]
    unfold Mt.ap
    simp only
    congr 1 <;> grind
theorem ap_bnd {m : Mt} (h : m.det = 1 ∨ m.det = -1) (ps : List Pt) : bndL (ps.map m.ap) = bndL ps := by
  unfold bndL; rw [List.length_map]; exact ap_bndTo h ps _ (Nat.le_refl _)
theorem ap_intr {m : Mt} (h : m.det = 1 ∨ m.det = -1) (ps : List Pt) : intrL (ps.map m.ap) = intrL ps := by
  unfold intrL
  rw [ap_bnd h, ap_area]
  have : absI (m.det * areaL ps) = absI (areaL ps) := by
    rcases h with h | h <;> rw [h]
    · rw [Int.one_mul]
    · unfold absI; split <;> split <;> omega
  rw [this]
end Go.Proofs.Ytelhidonhldjeaa
