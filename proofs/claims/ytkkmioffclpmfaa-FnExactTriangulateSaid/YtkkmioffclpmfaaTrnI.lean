
/- Triangulate of the program. -/
import Derived.Test.YtkkmioffclpmfaaCan
import Derived.Test.YtkkmioffclpmfaaCutS
import Derived.Test.YtkkmioffclpmfaaDelN
import Derived.Test.YtkkmioffclpmfaaEar
set_option linter.unusedVariables false
set_option linter.unusedSimpArgs false
namespace Go.Proofs.Ytkkmioffclpmfaa
open Go.RowKit

theorem own_but {w W : World} {base g : Nat} {e : TypeId} {size : Nat} {v : Value} {n : Nat} {xs : List Value} (h : w.ownsRow base e size v n xs) (hb : But w W g) (hne : v.ownBlock ≠ some g) : W.ownsRow base e size v n xs := own_block h fun k hk => hb.block k (fun e => hne (by rw [← e]; exact hk))
theorem RowAt.one_set {w : World} {g : Nat} {T : TypeId} {v : Value} (h : RowAt w g T 1 fun _ => v) (u : Value) : RowAt (w.setCell ⟨g, 0, none⟩ u) g T 1 fun _ => u := (h.set (by omega) u).congr fun j hj => by rw [if_pos (show j = 0 by omega)]
theorem RowAt.one_new (w : World) (T : TypeId) (v : Value) : RowAt (w.alloc (.cells #[v] T)) w.heap.size T 1 fun _ => v := RowAt.new w #[v] T fun j hj => by have h1 : j < 1 := hj; rw [show j = 0 by omega]; rfl
theorem idx_nodup {rs : List Nat} {k m : Nat} (hl : rs.length = m) (hd : rs.Nodup) (hk : k < m) : firstIdx (fun i => (gn rs k : Int) == gi (zI rs) i) m = (k : Int) :=
  firstIdx_at hk (by rw [gi_zI]; exact beq_self_eq_true _) fun j hj => by
    rw [gi_zI, beq_eq_false_iff_ne]
    intro e
    have e2 : gn rs k = gn rs j := by omega
    exact absurd (gn_inj hd (by omega) (by omega) e2) (by omega)
theorem OwnT.made (w : World) (m base : Nat) (hb : base ≤ w.heap.size) (hm : m ≤ 1000000) : OwnT (w.alloc (.cells (madeCells #[.int .i64 0, .int .i64 0, .int .i64 0] (m * 3)) 46)) base (.slice (some ⟨w.heap.size, 0, none⟩) 0 m) [] :=
  ⟨rfl, .inr ⟨w.heap.size, m, _, rfl, hb, heap_alloc_new w _, Nat.zero_le _, by unfold maxLen; omega, by rw [size_madeCells], rfl⟩⟩
set_option maxHeartbeats 1000000 in
theorem tri1_any (ps : List Pt) (rs : List Nat) (k : Nat) (A Z : Option Addr) (n cc m d bp bl : Nat) (w : World) (hn : ps.length = n) (hl : rs.length = m) (hk : k < m) (hm : n ≤ 1000) (hm2 : m ≤ 1000) (hnd : rs.Nodup) (hr : ∀ j, j < m → gn rs j < n) (hib : ∀ p ∈ ps, (-100000 ≤ p.x ∧ p.x ≤ 100000) ∧ (-100000 ≤ p.y ∧ p.y ≤ 100000)) (hs : PtsAt w w.heap.size A ps) (hz : IntsAt w w.heap.size Z (zI rs))
    (hp : w.cell? ⟨bp, 0, none⟩ = some (.slice A n cc)) (hc : w.cell? ⟨bl, 0, none⟩ = some (.slice Z m d)) :
    Calls Try.prog 63 #[.int .i64 (gi (zI rs) k), .pointer (some ⟨bp, 0, none⟩), .pointer (some ⟨bl, 0, none⟩)] w fun e w' => e = .returned (.bool (earB ps rs k)) ∧ ∃ x, w' = ext w x := by
  have l0 : bp < w.heap.size := World.block_lt_of_cell? w _ hp
  have l1 : bl < w.heap.size := World.block_lt_of_cell? w _ hc
  have IX := hide (fun (W : World) (hb : Below w.heap.size w W) => indexN_any (zI rs) (gn rs k) Z m d W (by rw [zI_len, hl]) (by omega) (hz.to hb))
  rw [idx_nodup hl hnd hk] at IX
  have EA := hide (fun (W : World) (hb : Below w.heap.size w W) => earAt_any ps rs k A Z n cc m d W hn hl hk hm hm2 hr hib (hs.to hb) (hz.to hb))
  rw [gi_zI]
  have SC : Hid (∀ W : World, Below w.heap.size w W → W.cell? ⟨bp, 0, none⟩ = some (.slice A n cc) ∧ W.cell? ⟨bl, 0, none⟩ = some (.slice Z m d)) := hide (fun W hb => ⟨(hb.cell (p := ⟨bp, 0, none⟩) l0).trans hp, (hb.cell (p := ⟨bl, 0, none⟩) l1).trans hc⟩)
  clear hs hz hr hib hnd hn hl hp hc
  generalize gn rs k = G at *
  go_enter Try.func63, Try.ntmps63
  go_wp2_with fail
  go_region_held3 (fun W => W.cell? ⟨bp, 0, none⟩ = some (.slice A n cc) ∧ W.cell? ⟨bl, 0, none⟩ = some (.slice Z m d)) (exact SC.out _ (by (repeat' (first | (with_reducible exact Below.refl _ _) | (with_reducible assumption) | (with_reducible refine below_ext _ ?_ ?_) | (with_reducible refine Below.alloc ?_ ?_ _) | (with_reducible refine Below.drew ?_) | (with_reducible refine below_drewN ?_ _) | (with_reducible refine le_drewN _ ?_) | (with_reducible refine Below.setCell ?_ ?_ _) | (with_reducible exact Nat.le_refl _) | (with_reducible refine le_ext _ ?_) | (with_reducible refine le_alloc _ ?_) | (with_reducible refine le_setCell _ _ ?_) | (with_reducible refine le_drew ?_) | omega | (simp; done) | (simp; omega))))) (first | (go_at_call 65; refine (IX.out _ (by (repeat' (first | (with_reducible exact Below.refl _ _) | (with_reducible assumption) | (with_reducible refine below_ext _ ?_ ?_) | (with_reducible refine Below.alloc ?_ ?_ _) | (with_reducible refine Below.drew ?_) | (with_reducible refine below_drewN ?_ _) | (with_reducible refine le_drewN _ ?_) | (with_reducible refine Below.setCell ?_ ?_ _) | (with_reducible exact Nat.le_refl _) | (with_reducible refine le_ext _ ?_) | (with_reducible refine le_alloc _ ?_) | (with_reducible refine le_setCell _ _ ?_) | (with_reducible refine le_drew ?_) | omega | (simp; done) | (simp; omega))))).mono ?_; rintro e w' ⟨rfl, hw'⟩; have hzy1 := ext_sz hw'; obtain ⟨y1, rfl⟩ := hw'; (try simp at hzy1)) | (go_at_call 64; refine (EA.out _ (by (repeat' (first | (with_reducible exact Below.refl _ _) | (with_reducible assumption) | (with_reducible refine below_ext _ ?_ ?_) | (with_reducible refine Below.alloc ?_ ?_ _) | (with_reducible refine Below.drew ?_) | (with_reducible refine below_drewN ?_ _) | (with_reducible refine le_drewN _ ?_) | (with_reducible refine Below.setCell ?_ ?_ _) | (with_reducible exact Nat.le_refl _) | (with_reducible refine le_ext _ ?_) | (with_reducible refine le_alloc _ ?_) | (with_reducible refine le_setCell _ _ ?_) | (with_reducible refine le_drew ?_) | omega | (simp; done) | (simp; omega))))).mono ?_; rintro e w' ⟨rfl, hw'⟩; have hzy2 := ext_sz hw'; obtain ⟨y2, rfl⟩ := hw'; (try simp at hzy2)))
  all_goals
    go_wp2_with fail
    go_ret
    exact ⟨rfl, (ext_mk (by (repeat' (first | (with_reducible exact Below.refl _ _) | (with_reducible assumption) | (with_reducible refine below_ext _ ?_ ?_) | (with_reducible refine Below.alloc ?_ ?_ _) | (with_reducible refine Below.drew ?_) | (with_reducible refine below_drewN ?_ _) | (with_reducible refine le_drewN _ ?_) | (with_reducible refine Below.setCell ?_ ?_ _) | (with_reducible exact Nat.le_refl _) | (with_reducible refine le_ext _ ?_) | (with_reducible refine le_alloc _ ?_) | (with_reducible refine le_setCell _ _ ?_) | (with_reducible refine le_drew ?_) | omega | (simp; done) | (simp; omega)))))⟩
theorem triInf2 : (Try.prog.info? 46).map (fun i => (i.zero, i.size, i.bytes)) = some (some (.agg #[.int .i64 0, .int .i64 0, .int .i64 0]), 3, 24) := by kernel_rfl
set_option maxRecDepth 20000 in
set_option maxHeartbeats 4000000 in
theorem itri0_any (ps : List Pt) (A : Option Addr) (n c : Nat) (w : World) (hn : ps.length = n) (hok : clipB ps = true) (hs : PtsAt w w.heap.size A ps) :
    Calls Try.prog 32 #[.slice A n c] w fun e w' => ∃ v, e = .returned v ∧ OwnT w' w.heap.size v (triI ps) ∧ ∃ x, w' = ext w x := by
  have hsim := clipB_sim hok
  obtain ⟨hib, h3, h20, _, hnd⟩ := simB_parts hsim
  have CT := hide (fun (W : World) (hb : Below w.heap.size w W) => counter_any ps A n c W hn (by omega) (by omega) hib (hs.to hb))
  have CK : Hid (∀ k, k ≤ n - 3 → RingOk ps (clipR ps k) ∧ (clipR ps k).length = n - k) := hide (fun k hk => by rw [← hn]; exact clip_ok hsim k (by omega))
  have FE : Hid (∀ k, k < n - 3 → fEar ps (clipR ps k) < n - k ∧ earB ps (clipR ps k) (fEar ps (clipR ps k)) = true ∧ firstIdx (earB ps (clipR ps k)) (n - k) = (fEar ps (clipR ps k) : Int)) := hide (fun k hk => by
    obtain ⟨r1, r2⟩ := CK.out k (by omega)
    obtain ⟨f1, f2, f3, _⟩ := fEar_ok r1 (by omega)
    rw [r2] at f1 f3
    exact ⟨f1, f2, f3⟩)
  have GL : Hid (∀ k j, k ≤ n - 3 → j < n - k → gn (clipR ps k) j < n) := hide (fun k j hk hj => by rw [← hn]; exact (CK.out k hk).1.at_lt (by rw [(CK.out k hk).2]; exact hj))
  have EA := hide (fun (k j : Nat) (Z : Option Addr) (d : Nat) (W : World) (hb : Below w.heap.size w W) (hk : k ≤ n - 3) (hj : j < n - k) (hz : IntsAt W W.heap.size Z (zI (clipR ps k))) => earAt_any ps (clipR ps k) j A Z n c (n - k) d W hn (CK.out k hk).2 hj (by omega) (by omega) (fun i hi => GL.out k i hk hi) hib (hs.to hb) hz)
  have IX := hide (fun (k : Nat) (Z : Option Addr) (d bp bl : Nat) (W : World) (hb : Below w.heap.size w W) (hk : k ≤ n - 3) (hz : IntsAt W W.heap.size Z (zI (clipR ps k))) (hp : W.cell? ⟨bp, 0, none⟩ = some (.slice A n c)) (hc : W.cell? ⟨bl, 0, none⟩ = some (.slice Z (n - k) d)) =>
    IndexFuncN_any 63 #[.pointer (some ⟨bp, 0, none⟩), .pointer (some ⟨bl, 0, none⟩)] (earB ps (clipR ps k)) (zI (clipR ps k)) Z (n - k) d W (by rw [zI_len, (CK.out k hk).2]) (by omega) (enters _ Try.func63 (by kernel_rfl) rfl) hz (fun W' i hb' hi =>
      tri1_any ps (clipR ps k) i A Z n c (n - k) d bp bl W' hn (CK.out k hk).2 (by rw [zI_len, (CK.out k hk).2] at hi; exact hi) (by omega) (by omega) (CK.out k hk).1.nodup (fun j hj => GL.out k j hk hj) hib ((hs.to hb).to hb') (hz.to hb') ((hb'.cell (p := ⟨bp, 0, none⟩) (World.block_lt_of_cell? W _ hp)).trans hp) ((hb'.cell (p := ⟨bl, 0, none⟩) (World.block_lt_of_cell? W _ hc)).trans hc)))
  have ZL : Hid (∀ k, k ≤ n - 3 → (zI (clipR ps k)).length = n - k) := hide (fun k hk => by rw [zI_len, (CK.out k hk).2])
  have R0 : Hid (zI (clipR ps 0) = rgL ps) := hide (zI_rgN ps)
  have NXR : Hid (∀ k, k < n - 3 → zI (clipR ps (k + 1)) = (zI (clipR ps k)).eraseIdx (fEar ps (clipR ps k))) := hide (fun k hk => by
    rw [show clipR ps (k + 1) = (clipR ps k).eraseIdx (fEar ps (clipR ps k)) from rfl, zI_erase (by rw [(CK.out k (by omega)).2]; exact (FE.out k hk).1), List.nil_append, List.eraseIdx_eq_take_drop_succ])
  have NXO := hide (clipO_one ps)
  have OL : Hid (∀ k, ((clipO ps k).map ofN).length = k) := hide (fun k => by rw [List.length_map, clipO_len])
  have LAST : Hid (triI ps = (clipO ps (n - 3)).map ofN ++ [⟨gn (clipR ps (n - 3)) 0, gn (clipR ps (n - 3)) 1, gn (clipR ps (n - 3)) 2⟩]) := hide (by rw [← hn]; exact clip_last ps)
  have k20 : n ≤ 20 := by omega
  have k3 : 3 ≤ n := by omega
  have hmk : ∀ w : World, (Instr.makeSlice 24 (.int .i64 0) (.int .i64 ((n : Int) - 2))).run Try.prog w = .ok (.slice (some ⟨w.heap.size, 0, none⟩) 0 (n - 2)) (w.alloc (.cells (madeCells #[.int .i64 0, .int .i64 0, .int .i64 0] ((n - 2) * 3)) 46)) := fun W => by
    obtain ⟨i0, hi, hz0, hz1, hz2⟩ := info_parts triInf2
    have := make_row (P := Try.prog) 24 46 i0 _ Try.underlying24 hi hz0 0 (n - 2) (Nat.zero_le _) (by rw [hz2]; omega) (by omega) W
    rw [hz1, show ((n - 2 : Nat) : Int) = (n : Int) - 2 by omega] at this; exact this
  have w1 : IntKind.i64.wrap ((n : Int) - 2) = (n : Int) - 2 := IntWalk.i64_in _ (by omega)
  clear hn hok hs hsim hib h3 h20 hnd CK GL
  go_enter Try.func32, Try.ntmps32
  go_wp2_with fail
  refine (CT.out _ (by (repeat' (first | (with_reducible exact Below.refl _ _) | (with_reducible assumption) | (with_reducible refine below_ext _ ?_ ?_) | (with_reducible refine Below.alloc ?_ ?_ _) | (with_reducible refine Below.drew ?_) | (with_reducible refine below_drewN ?_ _) | (with_reducible refine le_drewN _ ?_) | (with_reducible refine Below.setCell ?_ ?_ _) | (with_reducible exact Nat.le_refl _) | (with_reducible refine le_ext _ ?_) | (with_reducible refine le_alloc _ ?_) | (with_reducible refine le_setCell _ _ ?_) | (with_reducible refine le_drew ?_) | omega | (simp; done) | (simp; omega))))).mono ?_
  rintro e w2 ⟨v2, rfl, own2, hx2⟩
  rw [← R0.out] at own2
  obtain ⟨A2, n2, c2, rfl⟩ := own_slice own2
  have l2 := own2.ints
  have e2 : n = n2 := by rw [← l2.1, ZL.out 0 (Nat.zero_le _)]; rfl
  subst e2
  obtain ⟨g, rfl, hg, lg, _, _⟩ := own2.head (by omega)
  have O2 := hide own2
  have B2 := hide (ext_bel hx2)
  have s2 : w.heap.size + 1 ≤ w2.heap.size := by have := B2.out.size; simpa using this
  have hg : w.heap.size + 1 ≤ g := by simpa using hg
  have cp2 : w2.cell? ⟨w.heap.size, 0, none⟩ = some (.slice A n c) := (B2.out.cell (p := ⟨w.heap.size, 0, none⟩) (by simp)).trans (heap_cell (heap_alloc_new w _) 0)
  have q2 := l2.2.2.1
  have q3 := l2.2.1
  unfold maxLen at q2
  have BW2 : Hid (Below w.heap.size w w2) := hide ((show Below w.heap.size w (w.alloc _) from (by (repeat' (first | (with_reducible exact Below.refl _ _) | (with_reducible assumption) | (with_reducible refine below_ext _ ?_ ?_) | (with_reducible refine Below.alloc ?_ ?_ _) | (with_reducible refine Below.drew ?_) | (with_reducible refine below_drewN ?_ _) | (with_reducible refine le_drewN _ ?_) | (with_reducible refine Below.setCell ?_ ?_ _) | (with_reducible exact Nat.le_refl _) | (with_reducible refine le_ext _ ?_) | (with_reducible refine le_alloc _ ?_) | (with_reducible refine le_setCell _ _ ?_) | (with_reducible refine le_drew ?_) | omega | (simp; done) | (simp; omega))))).trans (B2.out.mono (by simp)))
  clear own2 hx2 R0 CT l2 B2
  go_wp2_with fail
  have M4 := fun W : World => OwnT.made W (n - 2) (w2.heap.size + 1)
  go_loopw [4, 5, 6, 7] (fun u4 _ _ _ wr => ∃ k : Nat, k ≤ n - 3 ∧ RowAt wr w2.heap.size 58 1 (fun _ => .slice (some ⟨g, 0, none⟩) (n - k) c2) ∧ Own wr (w.heap.size + 1) (.slice (some ⟨g, 0, none⟩) (n - k) c2) (zI (clipR ps k)) ∧ OwnT wr (w2.heap.size + 1) u4 ((clipO ps k).map ofN) ∧ Below w.heap.size w wr ∧ wr.cell? ⟨w.heap.size, 0, none⟩ = some (.slice A n c)) (fun u4 _ _ _ _ => match u4 with | .slice _ l _ => n - l | _ => 0)
  case atStart =>
    refine ⟨0, Nat.zero_le _, ?_, ?_, ?_, ?_, ?_⟩
    · exact (RowAt.one_new w2 _ _).alloc _
    · exact O2.out.below (by (repeat' (first | (with_reducible exact Below.refl _ _) | (with_reducible assumption) | (with_reducible refine below_ext _ ?_ ?_) | (with_reducible refine Below.alloc ?_ ?_ _) | (with_reducible refine Below.drew ?_) | (with_reducible refine below_drewN ?_ _) | (with_reducible refine le_drewN _ ?_) | (with_reducible refine Below.setCell ?_ ?_ _) | (with_reducible exact Nat.le_refl _) | (with_reducible refine le_ext _ ?_) | (with_reducible refine le_alloc _ ?_) | (with_reducible refine le_setCell _ _ ?_) | (with_reducible refine le_drew ?_) | omega | (simp; done) | (simp; omega)))) |>.base (by simp)
    · have h := M4 (w2.alloc (.cells #[.slice (some ⟨g, 0, none⟩) n c2] 58)) (by simp) (by omega)
      rw [show (clipO ps 0).map ofN = [] from rfl]
      simpa using h
    · exact BW2.out.trans (by (repeat' (first | (with_reducible exact Below.refl _ _) | (with_reducible assumption) | (with_reducible refine below_ext _ ?_ ?_) | (with_reducible refine Below.alloc ?_ ?_ _) | (with_reducible refine Below.drew ?_) | (with_reducible refine below_drewN ?_ _) | (with_reducible refine le_drewN _ ?_) | (with_reducible refine Below.setCell ?_ ?_ _) | (with_reducible exact Nat.le_refl _) | (with_reducible refine le_ext _ ?_) | (with_reducible refine le_alloc _ ?_) | (with_reducible refine le_setCell _ _ ?_) | (with_reducible refine le_drew ?_) | omega | (simp; done) | (simp; omega))))
    · exact ((show Below w2.heap.size w2 _ from (by (repeat' (first | (with_reducible exact Below.refl _ _) | (with_reducible assumption) | (with_reducible refine below_ext _ ?_ ?_) | (with_reducible refine Below.alloc ?_ ?_ _) | (with_reducible refine Below.drew ?_) | (with_reducible refine below_drewN ?_ _) | (with_reducible refine le_drewN _ ?_) | (with_reducible refine Below.setCell ?_ ?_ _) | (with_reducible exact Nat.le_refl _) | (with_reducible refine le_ext _ ?_) | (with_reducible refine le_alloc _ ?_) | (with_reducible refine le_setCell _ _ ?_) | (with_reducible refine le_drew ?_) | omega | (simp; done) | (simp; omega))))).cell (p := ⟨w.heap.size, 0, none⟩) (by simp; omega)).trans cp2
  case round =>
    obtain ⟨k, hk, hrow, hown, hownT, hbel, hcp⟩ := hrel
    obtain ⟨A4, n4, c4, rfl⟩ := hownT.slice
    have hcl := hrow.cell (j := 0) (by omega)
    have hfr := hrow.frozen 0
    have lbl := hrow.lt
    have HR := hide hrow
    have I3 := hide hown.ints.2.2.2
    have e4 : k = n4 := by rw [← hownT.tris.1]; exact (OL.out k).symm
    subst e4
    have OWG : Hid (∀ W : World, W.heap[g]? = wr.heap[g]? → Own W (w.heap.size + 1) (.slice (some ⟨g, 0, none⟩) (n - k) c2) (zI (clipR ps k))) := hide (fun W h => own_block hown fun j hj => by injection hj with hj; rw [← show g = j from hj]; exact h)
    have OWT := hide hownT
    have LT4 := hide hownT.lt
    have hsz := hbel.size
    have CELk : 0 < n - k → ∀ i, i < n - k → wr.cell? ⟨g, i, none⟩ = some (.int .i64 (gi (zI (clipR ps k)) i)) := fun h0 => by
      obtain ⟨g3, e5, _, _, _, C⟩ := hown.head h0
      injection e5 with e5
      injection e5 with e5
      rw [e5]; exact C
    have hcp0 := hcp
    obtain ⟨W0, hW0⟩ : ∃ W0, W0 = wr := ⟨_, rfl⟩
    subst hW0
    clear hown hownT hrow
    by_cases hlt : k < n - 3
    · obtain ⟨f1, f2, f3⟩ := FE.out k hlt
      have NXR1 := hide (NXR.out k hlt)
      have NXO1 := hide (NXO.out k)
      have OLk := hide (OL.out k)
      have IXk := hide (fun (W : World) (hb : Below W0.heap.size W0 W) (hp : W.cell? ⟨w.heap.size, 0, none⟩ = some (.slice A n c)) (hc : W.cell? ⟨w2.heap.size, 0, none⟩ = some (.slice (some ⟨g, 0, none⟩) (n - k) c2)) => IX.out k (some ⟨g, 0, none⟩) c2 w.heap.size w2.heap.size W (hbel.trans (hb.mono hsz)) hk (I3.out.to hb) hp hc)
      rw [f3] at IXk
      have EAk := hide (fun (W : World) (hb : Below W0.heap.size W0 W) => EA.out k (fEar ps (clipR ps k)) (some ⟨g, 0, none⟩) c2 W (hbel.trans (hb.mono hsz)) hk f1 (I3.out.to hb))
      rw [f2] at EAk
      have DL := hide (fun (W : World) (h : W.heap[g]? = W0.heap[g]?) => delN_any (zI (clipR ps k)) (w.heap.size + 1) (fEar ps (clipR ps k)) (some ⟨g, 0, none⟩) (n - k) c2 W f1 (OWG.out W h))
      rw [← NXR1.out] at DL
      have hm1 : n - (k + 1) = n - k - 1 := by omega
      have hm3 : 3 < n - k := by omega
      have hmn : n - k ≤ n := by omega
      clear EA IX NXR NXO OL ZL LAST FE CELk f3 f2
      generalize fEar ps (clipR ps k) = fe at *
      generalize (clipO ps k).map ofN = T0 at *
      generalize (bef (clipR ps k) fe) = ga at *
      generalize (gn (clipR ps k) fe) = gb at *
      generalize (aft (clipR ps k) fe) = gc at *
      generalize n - k = m at *
      have HM1 := hide hm1
      clear hm1
      have d1 : decide ((3 : Int) < (m : Int)) = true := decide_eq_true (by omega)
      have d2 : decide ((fe : Int) < 0) = false := decide_eq_false (by omega)
      have w5 : IntKind.i64.wrap ((fe : Int) + 1) = (fe : Int) + 1 := IntWalk.i64_in _ (by omega)
      have NL : T0.length ≤ 2000000 := by rw [OLk.out]; omega
      go_wp2_with fail
      refine (IXk.out _ (by (repeat' (first | (with_reducible exact Below.refl _ _) | (with_reducible assumption) | (with_reducible refine below_ext _ ?_ ?_) | (with_reducible refine Below.alloc ?_ ?_ _) | (with_reducible refine Below.drew ?_) | (with_reducible refine below_drewN ?_ _) | (with_reducible refine le_drewN _ ?_) | (with_reducible refine Below.setCell ?_ ?_ _) | (with_reducible exact Nat.le_refl _) | (with_reducible refine le_ext _ ?_) | (with_reducible refine le_alloc _ ?_) | (with_reducible refine le_setCell _ _ ?_) | (with_reducible refine le_drew ?_) | omega | (simp; done) | (simp; omega)))) hcp hcl).mono ?_
      rintro e w' ⟨rfl, hw'⟩; have hzy1 := ext_sz hw'; obtain ⟨y1, rfl⟩ := hw'; (try simp at hzy1)
      go_wp2_with fail
      refine (EAk.out _ (by (repeat' (first | (with_reducible exact Below.refl _ _) | (with_reducible assumption) | (with_reducible refine below_ext _ ?_ ?_) | (with_reducible refine Below.alloc ?_ ?_ _) | (with_reducible refine Below.drew ?_) | (with_reducible refine below_drewN ?_ _) | (with_reducible refine le_drewN _ ?_) | (with_reducible refine Below.setCell ?_ ?_ _) | (with_reducible exact Nat.le_refl _) | (with_reducible refine le_ext _ ?_) | (with_reducible refine le_alloc _ ?_) | (with_reducible refine le_setCell _ _ ?_) | (with_reducible refine le_drew ?_) | omega | (simp; done) | (simp; omega))))).mono ?_
      rintro e w' ⟨rfl, hw'⟩; have hzy2 := ext_sz hw'; obtain ⟨y2, rfl⟩ := hw'; (try simp at hzy2)
      have BW : Below W0.heap.size W0 (ext (ext W0 y1) y2) := (by (repeat' (first | (with_reducible exact Below.refl _ _) | (with_reducible assumption) | (with_reducible refine below_ext _ ?_ ?_) | (with_reducible refine Below.alloc ?_ ?_ _) | (with_reducible refine Below.drew ?_) | (with_reducible refine below_drewN ?_ _) | (with_reducible refine le_drewN _ ?_) | (with_reducible refine Below.setCell ?_ ?_ _) | (with_reducible exact Nat.le_refl _) | (with_reducible refine le_ext _ ?_) | (with_reducible refine le_alloc _ ?_) | (with_reducible refine le_setCell _ _ ?_) | (with_reducible refine le_drew ?_) | omega | (simp; done) | (simp; omega))))
      generalize ext (ext W0 y1) y2 = W1 at *
      have sW := BW.size
      have cl1 := (BW.cell (p := ⟨w2.heap.size, 0, none⟩) lbl).trans hcl
      go_wp2_with (at_builtin; refine app_tri rfl _ _ rfl (w2.heap.size + 1) (.slice A4 k c4) T0 rfl (OWT.out.below (by (repeat' (first | (with_reducible exact Below.refl _ _) | (with_reducible assumption) | (with_reducible refine below_ext _ ?_ ?_) | (with_reducible refine Below.alloc ?_ ?_ _) | (with_reducible refine Below.drew ?_) | (with_reducible refine below_drewN ?_ _) | (with_reducible refine le_drewN _ ?_) | (with_reducible refine Below.setCell ?_ ?_ _) | (with_reducible exact Nat.le_refl _) | (with_reducible refine le_ext _ ?_) | (with_reducible refine le_alloc _ ?_) | (with_reducible refine le_setCell _ _ ?_) | (with_reducible refine le_drew ?_) | omega | (simp; done) | (simp; omega))))) ga gb gc _ _ rfl (by simp [go_sem]) (by simp [go_sem]) (by simp [go_sem]) NL (by simp; omega) ?_; intro v7 w7 hown7 hb7 hat7 hgr7; obtain ⟨A7, n7, c7, rfl⟩ := hown7.slice; have O7 := hide hown7; have BK7 : Hid (∀ j, j < w2.heap.size + 1 → w7.heap[j]? = W0.heap[j]?) := hide (fun j hj => (hb7.block j hj).trans ((show Below W0.heap.size W0 _ from (by (repeat' (first | (with_reducible exact Below.refl _ _) | (with_reducible assumption) | (with_reducible refine below_ext _ ?_ ?_) | (with_reducible refine Below.alloc ?_ ?_ _) | (with_reducible refine Below.drew ?_) | (with_reducible refine below_drewN ?_ _) | (with_reducible refine le_drewN _ ?_) | (with_reducible refine Below.setCell ?_ ?_ _) | (with_reducible exact Nat.le_refl _) | (with_reducible refine le_ext _ ?_) | (with_reducible refine le_alloc _ ?_) | (with_reducible refine le_setCell _ _ ?_) | (with_reducible refine le_drew ?_) | omega | (simp; done) | (simp; omega))))).block j (by omega))); have R7 := HR.out.block (BK7.out w2.heap.size (by omega)); have cl7 := R7.cell (j := 0) (by omega); have B7 := hide (Below.trans (Below.mono (show Below W0.heap.size W0 _ from (by (repeat' (first | (with_reducible exact Below.refl _ _) | (with_reducible assumption) | (with_reducible refine below_ext _ ?_ ?_) | (with_reducible refine Below.alloc ?_ ?_ _) | (with_reducible refine Below.drew ?_) | (with_reducible refine below_drewN ?_ _) | (with_reducible refine le_drewN _ ?_) | (with_reducible refine Below.setCell ?_ ?_ _) | (with_reducible exact Nat.le_refl _) | (with_reducible refine le_ext _ ?_) | (with_reducible refine le_alloc _ ?_) | (with_reducible refine le_setCell _ _ ?_) | (with_reducible refine le_drew ?_) | omega | (simp; done) | (simp; omega))))) (show w2.heap.size + 1 ≤ W0.heap.size by omega)) hb7); clear hown7 hat7 hgr7 hb7)
      refine (DL.out _ (BK7.out g (by omega))).mono ?_
      rintro e w8 ⟨rfl, own8, g8, hg8, but8⟩
      injection hg8 with hg8
      injection hg8 with hg8
      subst hg8
      have R8 := R7.but but8 (by omega)
      have cl8 := R8.cell (j := 0) (by omega)
      have fr8 := R8.frozen 0
      go_wp2_with fail
      have LT7 := O7.out.lt
      have e7 : k + 1 = n7 := by have := O7.out.tris.1; rw [List.length_append, OLk.out] at this; exact this
      refine ⟨⟨k + 1, by omega, ?_, ?_, ?_, ?_, ?_⟩, ?_⟩
      · rw [HM1.out]; exact R8.one_set _
      · rw [HM1.out]; exact own_but own8 ((But.refl _ _).set _ _) (fun h => by injection h with h; have h : g = w2.heap.size := h; omega)
      · rw [NXO1.out]; exact own_but (own_but O7.out but8 (fun h => absurd lg (Nat.not_lt.2 (Nat.le_of_succ_le (LT7 g h))))) ((But.refl _ _).set _ _) (fun h => absurd (LT7 _ h) (Nat.not_succ_le_self _))
      · exact (hbel.trans (B7.out.mono (by omega))).trans ((but8.below (B := w.heap.size) (by omega)).trans (show Below w.heap.size w8 _ from (by (repeat' (first | (with_reducible exact Below.refl _ _) | (with_reducible assumption) | (with_reducible refine below_ext _ ?_ ?_) | (with_reducible refine Below.alloc ?_ ?_ _) | (with_reducible refine Below.drew ?_) | (with_reducible refine below_drewN ?_ _) | (with_reducible refine le_drewN _ ?_) | (with_reducible refine Below.setCell ?_ ?_ _) | (with_reducible exact Nat.le_refl _) | (with_reducible refine le_ext _ ?_) | (with_reducible refine le_alloc _ ?_) | (with_reducible refine le_setCell _ _ ?_) | (with_reducible refine le_drew ?_) | omega | (simp; done) | (simp; omega))))))
      · exact (World.cell?_of_block ((Below.heap_setCell _ _ _ _ (show w.heap.size ≠ w2.heap.size by omega)).trans ((but8.block w.heap.size (by omega)).trans (BK7.out w.heap.size (by omega))))).trans hcp0
      · show n - n7 < n - k
        omega
    · have ek : k = n - 3 := by omega
      subst ek
      have CEL := CELk (by omega)
      have z0 := CEL 0 (by omega)
      have z1 := CEL 1 (by omega)
      have z2 := CEL 2 (by omega)
      rw [gi_zI] at z0 z1 z2
      have LA := hide LAST.out
      have OLk := hide (OL.out (n - 3))
      clear EA IX NXR NXO OL ZL LAST FE CELk CEL OWG I3
      generalize gn (clipR ps (n - 3)) 0 = ga at *
      generalize gn (clipR ps (n - 3)) 1 = gb at *
      generalize gn (clipR ps (n - 3)) 2 = gc at *
      have en : n - (n - 3) = 3 := by omega
      rw [en] at hcl
      have d1 : decide ((3 : Int) < ((3 : Nat) : Int)) = false := by decide
      have OD : Hid (∀ o, OwnT ((W0.alloc o).drew) (w2.heap.size + 1) (.slice A4 (n - 3) c4) ((clipO ps (n - 3)).map ofN)) := hide (fun o => OWT.out.below (show Below W0.heap.size W0 ((W0.alloc o).drew) from (by (repeat' (first | (with_reducible exact Below.refl _ _) | (with_reducible assumption) | (with_reducible refine below_ext _ ?_ ?_) | (with_reducible refine Below.alloc ?_ ?_ _) | (with_reducible refine Below.drew ?_) | (with_reducible refine below_drewN ?_ _) | (with_reducible refine le_drewN _ ?_) | (with_reducible refine Below.setCell ?_ ?_ _) | (with_reducible exact Nat.le_refl _) | (with_reducible refine le_ext _ ?_) | (with_reducible refine le_alloc _ ?_) | (with_reducible refine le_setCell _ _ ?_) | (with_reducible refine le_drew ?_) | omega | (simp; done) | (simp; omega))))))
      have SZ : Hid (∀ o : Obj, w2.heap.size + 1 ≤ ((W0.alloc o).drew).heap.size) := hide (fun o => (by first | (simp; done) | (simp; omega)))
      have NC : Hid (∀ o : Obj, ((W0.alloc o).drew).heap[W0.heap.size]? = some o) := hide (fun o => heap_alloc_new W0 o)
      have NL : ((clipO ps (n - 3)).map ofN).length ≤ 2000000 := by rw [OLk.out]; omega
      have SC : Hid (∀ W : World, W.heap[g]? = W0.heap[g]? → W.heap[w2.heap.size]? = W0.heap[w2.heap.size]? → W.cell? ⟨w2.heap.size, 0, none⟩ = some (.slice (some ⟨g, 0, none⟩) 3 c2) ∧ W.cell? ⟨g, 0, none⟩ = some (.int .i64 ga) ∧ W.cell? ⟨g, 1, none⟩ = some (.int .i64 gb) ∧ W.cell? ⟨g, 2, none⟩ = some (.int .i64 gc)) := hide (fun W h h2 => ⟨(World.cell?_of_block h2).trans hcl, (World.cell?_of_block h).trans z0, (World.cell?_of_block h).trans z1, (World.cell?_of_block h).trans z2⟩)
      clear z0 z1 z2 hfr
      have lg0 : g < W0.heap.size := by omega
      go_wp2_with fail
      go_region_held3 (fun W => W.cell? ⟨w2.heap.size, 0, none⟩ = some (.slice (some ⟨g, 0, none⟩) 3 c2) ∧ W.cell? ⟨g, 0, none⟩ = some (.int .i64 ga) ∧ W.cell? ⟨g, 1, none⟩ = some (.int .i64 gb) ∧ W.cell? ⟨g, 2, none⟩ = some (.int .i64 gc)) (first | exact SC.out _ rfl rfl | exact SC.out _ (Below.heap_alloc _ _ _ lg0) (Below.heap_alloc _ _ _ lbl) | exact SC.out _ ((hb7b.out.block _ (by omega)).trans (Below.heap_alloc _ _ _ lg0)) ((hb7b.out.block _ (by omega)).trans (Below.heap_alloc _ _ _ lbl))) (first | (refine step_tri (by rfl) (.tmp 38) (.tmp 49) (by rfl) (w2.heap.size + 1) (.slice A4 (n - 3) c4) ((clipO ps (n - 3)).map ofN) (by rfl) (OD.out _) ga gb gc W0.heap.size 1 (by rfl) ((heap_cell (NC.out _) 0).trans rfl) ((heap_cell (NC.out _) 1).trans rfl) ((heap_cell (NC.out _) 2).trans rfl) NL (SZ.out _) ?_; intro v7 w7 hown7 hb7 hat7 hgr7; obtain ⟨A7, n7, c7, rfl⟩ := hown7.slice; have O7 := hide hown7; have hb7b := hide hb7; clear hown7 hat7 hgr7 hb7))
      all_goals
        go_wp2_with fail
        go_ret
        refine ⟨_, rfl, by rw [LA.out]; exact O7.out.base (by omega), ext_mk (hbel.trans ((show Below w.heap.size W0 _ from (by (repeat' (first | (with_reducible exact Below.refl _ _) | (with_reducible assumption) | (with_reducible refine below_ext _ ?_ ?_) | (with_reducible refine Below.alloc ?_ ?_ _) | (with_reducible refine Below.drew ?_) | (with_reducible refine below_drewN ?_ _) | (with_reducible refine le_drewN _ ?_) | (with_reducible refine Below.setCell ?_ ?_ _) | (with_reducible exact Nat.le_refl _) | (with_reducible refine le_ext _ ?_) | (with_reducible refine le_alloc _ ?_) | (with_reducible refine le_setCell _ _ ?_) | (with_reducible refine le_drew ?_) | omega | (simp; done) | (simp; omega))))).trans (hb7b.out.mono (by omega))))⟩
set_option maxHeartbeats 1000000 in
theorem iTri_any (ps : List Pt) (A : Option Addr) (n c : Nat) (w : World) (hn : ps.length = n) (hm : n ≤ 2000000) (hA : Plain A n) (hs : PtsAt w w.heap.size A ps) :
    Calls Try.prog 9 #[.slice A n c] w fun e w' => ∃ v, e = .returned v ∧ OwnT w' w.heap.size v (triV ps) ∧ ∃ x, w' = ext w x := by
  have HC := hide (clippable_any ps A n c w hn hm hA hs)
  by_cases hok : clipB ps = true
  · rw [hok] at HC
    have HV : Hid (triV ps = triI ps) := hide (if_pos hok)
    have TR := hide (fun (W : World) (hb : Below w.heap.size w W) => itri0_any ps A n c W hn hok (hs.to hb))
    rw [HV.out]
    clear hok hn hs HV
    go_enter Try.func9, Try.ntmps9
    go_wp2_with fail
    refine HC.out.mono ?_
    rintro e w' ⟨rfl, hw'⟩; have hzy1 := ext_sz hw'; obtain ⟨y1, rfl⟩ := hw'; (try simp at hzy1)
    go_wp2_with fail
    refine (TR.out _ (by (repeat' (first | (with_reducible exact Below.refl _ _) | (with_reducible assumption) | (with_reducible refine below_ext _ ?_ ?_) | (with_reducible refine Below.alloc ?_ ?_ _) | (with_reducible refine Below.drew ?_) | (with_reducible refine below_drewN ?_ _) | (with_reducible refine le_drewN _ ?_) | (with_reducible refine Below.setCell ?_ ?_ _) | (with_reducible exact Nat.le_refl _) | (with_reducible refine le_ext _ ?_) | (with_reducible refine le_alloc _ ?_) | (with_reducible refine le_setCell _ _ ?_) | (with_reducible refine le_drew ?_) | omega | (simp; done) | (simp; omega))))).mono ?_
    rintro e w2 ⟨v2, rfl, own2, hx2⟩
    have B2 := ext_bel hx2
    go_wp2_with fail
    go_ret
    exact ⟨v2, rfl, own2.base (by omega), ext_mk ((show Below w.heap.size w (ext w y1) from (by (repeat' (first | (with_reducible exact Below.refl _ _) | (with_reducible assumption) | (with_reducible refine below_ext _ ?_ ?_) | (with_reducible refine Below.alloc ?_ ?_ _) | (with_reducible refine Below.drew ?_) | (with_reducible refine below_drewN ?_ _) | (with_reducible refine le_drewN _ ?_) | (with_reducible refine Below.setCell ?_ ?_ _) | (with_reducible exact Nat.le_refl _) | (with_reducible refine le_ext _ ?_) | (with_reducible refine le_alloc _ ?_) | (with_reducible refine le_setCell _ _ ?_) | (with_reducible refine le_drew ?_) | omega | (simp; done) | (simp; omega))))).trans (B2.mono (by omega)))⟩
  · have hok := eq_false_of_ne_true hok
    rw [hok] at HC
    have HV : Hid (triV ps = []) := hide (if_neg (by rw [hok]; decide))
    rw [HV.out]
    clear hok hs hn HV
    go_enter Try.func9, Try.ntmps9
    go_wp2_with fail
    refine HC.out.mono ?_
    rintro e w' ⟨rfl, hw'⟩; have hzy1 := ext_sz hw'; obtain ⟨y1, rfl⟩ := hw'; (try simp at hzy1)
    go_wp2_with fail
    go_ret
    exact ⟨_, rfl, OwnT.nil _ _, (ext_mk (by (repeat' (first | (with_reducible exact Below.refl _ _) | (with_reducible assumption) | (with_reducible refine below_ext _ ?_ ?_) | (with_reducible refine Below.alloc ?_ ?_ _) | (with_reducible refine Below.drew ?_) | (with_reducible refine below_drewN ?_ _) | (with_reducible refine le_drewN _ ?_) | (with_reducible refine Below.setCell ?_ ?_ _) | (with_reducible exact Nat.le_refl _) | (with_reducible refine le_ext _ ?_) | (with_reducible refine le_alloc _ ?_) | (with_reducible refine le_setCell _ _ ?_) | (with_reducible refine le_drew ?_) | omega | (simp; done) | (simp; omega)))))⟩
set_option maxHeartbeats 1000000 in
theorem sTri_any (ps : List Pt) (A : Option Addr) (n c : Nat) (w : World) (hn : ps.length = n) (hm : n ≤ 2000000) (hs : PtsAt w w.heap.size A ps) :
    Calls Try.prog 7 #[.slice A n c] w fun e w' => ∃ v, e = .returned v ∧ OwnT w' w.heap.size v (triV ps) ∧ ∃ x, w' = ext w x := by
  have HC := hide (validBorder_any ps A n c w hn hm hs)
  by_cases hok : clipB ps = true
  · rw [hok] at HC
    have HV : Hid (triV ps = triI ps) := hide (if_pos hok)
    have TR := hide (fun (W : World) (hb : Below w.heap.size w W) => cutEars_any ps A n c W hn hok (hs.to hb))
    rw [HV.out]
    clear hok hn hs HV
    go_enter Try.func7, Try.ntmps7
    go_wp2_with fail
    refine HC.out.mono ?_
    rintro e w' ⟨rfl, hw'⟩; have hzy1 := ext_sz hw'; obtain ⟨y1, rfl⟩ := hw'; (try simp at hzy1)
    go_wp2_with fail
    refine (TR.out _ (by (repeat' (first | (with_reducible exact Below.refl _ _) | (with_reducible assumption) | (with_reducible refine below_ext _ ?_ ?_) | (with_reducible refine Below.alloc ?_ ?_ _) | (with_reducible refine Below.drew ?_) | (with_reducible refine below_drewN ?_ _) | (with_reducible refine le_drewN _ ?_) | (with_reducible refine Below.setCell ?_ ?_ _) | (with_reducible exact Nat.le_refl _) | (with_reducible refine le_ext _ ?_) | (with_reducible refine le_alloc _ ?_) | (with_reducible refine le_setCell _ _ ?_) | (with_reducible refine le_drew ?_) | omega | (simp; done) | (simp; omega))))).mono ?_
    rintro e w2 ⟨v2, rfl, own2, hx2⟩
    have B2 := ext_bel hx2
    go_wp2_with fail
    go_ret
    exact ⟨v2, rfl, own2.base (by omega), ext_mk ((show Below w.heap.size w (ext w y1) from (by (repeat' (first | (with_reducible exact Below.refl _ _) | (with_reducible assumption) | (with_reducible refine below_ext _ ?_ ?_) | (with_reducible refine Below.alloc ?_ ?_ _) | (with_reducible refine Below.drew ?_) | (with_reducible refine below_drewN ?_ _) | (with_reducible refine le_drewN _ ?_) | (with_reducible refine Below.setCell ?_ ?_ _) | (with_reducible exact Nat.le_refl _) | (with_reducible refine le_ext _ ?_) | (with_reducible refine le_alloc _ ?_) | (with_reducible refine le_setCell _ _ ?_) | (with_reducible refine le_drew ?_) | omega | (simp; done) | (simp; omega))))).trans (B2.mono (by omega)))⟩
  · have hok := eq_false_of_ne_true hok
    rw [hok] at HC
    have HV : Hid (triV ps = []) := hide (if_neg (by rw [hok]; decide))
    rw [HV.out]
    clear hok hs hn HV
    go_enter Try.func7, Try.ntmps7
    go_wp2_with fail
    refine HC.out.mono ?_
    rintro e w' ⟨rfl, hw'⟩; have hzy1 := ext_sz hw'; obtain ⟨y1, rfl⟩ := hw'; (try simp at hzy1)
    go_wp2_with fail
    go_ret
    exact ⟨_, rfl, OwnT.nil _ _, (ext_mk (by (repeat' (first | (with_reducible exact Below.refl _ _) | (with_reducible assumption) | (with_reducible refine below_ext _ ?_ ?_) | (with_reducible refine Below.alloc ?_ ?_ _) | (with_reducible refine Below.drew ?_) | (with_reducible refine below_drewN ?_ _) | (with_reducible refine le_drewN _ ?_) | (with_reducible refine Below.setCell ?_ ?_ _) | (with_reducible exact Nat.le_refl _) | (with_reducible refine le_ext _ ?_) | (with_reducible refine le_alloc _ ?_) | (with_reducible refine le_setCell _ _ ?_) | (with_reducible refine le_drew ?_) | omega | (simp; done) | (simp; omega)))))⟩
end Go.Proofs.Ytkkmioffclpmfaa
