/-
  The reference's ledger: those that are lost, all given up: marks in place.
-/
import Derived.Test.YtohjifbkjfnkfaaLrefb
namespace Go.Proofs.Ytohjifbkjfnkfaa
open Go.RowKit
set_option linter.unusedVariables false
set_option linter.unusedSimpArgs false


theorem own_put {w : World} {base : Nat} {e : TypeId} {size : Nat} {g n cap : Nat} {xs : List Value} (h : w.ownsRow base e size (.slice (some ⟨g, 0, none⟩) n cap) n xs) (j : Nat) (hj : j < n * size) (u : Value) :
    (w.setCell ⟨g, j, none⟩ u).ownsRow base e size (.slice (some ⟨g, 0, none⟩) n cap) n (xs.set j u) := by
  rcases h.2 with ⟨h', _⟩ | ⟨g', cap', cur, h', hb, hg, hn, hc, hs, ht⟩
  · simp at h'
  · simp only [Value.slice.injEq, Option.some.injEq, Addr.mk.injEq, and_true, true_and] at h'
    obtain ⟨rfl, rfl⟩ := h'
    refine ⟨by rw [List.length_set]; exact h.1, .inr ⟨g, cap, cur.setIfInBounds j u, rfl, hb, ?_, hn, hc, by simpa using hs, ?_⟩⟩
    · have := Blk.set_ (t := e) hg j u
      exact this
    · rw [← ht]
      simp [List.take_set]
theorem own_cell_at {w : World} {base : Nat} {e : TypeId} {size : Nat} {g n cap : Nat} {xs : List Value} (h : w.ownsRow base e size (.slice (some ⟨g, 0, none⟩) n cap) n xs) (j : Nat) (hj : j < n * size) :
    w.cell? ⟨g, j, none⟩ = some (xs.getD j undef) ∧ w.frozen? ⟨g, j, none⟩ = false := by
  constructor
  · rw [World.ownsRow.cellAt h j hj]
    have hl : j < xs.length := by have := h.1; omega
    simp [hl]
  · rcases h.2 with ⟨h', _⟩ | ⟨g', cap', cur, h', hb, hg, _⟩
    · simp at h'
    · simp only [Value.slice.injEq, Option.some.injEq, Addr.mk.injEq, and_true, true_and] at h'
      obtain ⟨rfl, rfl⟩ := h'
      exact Blk.frozen (t := e) hg j
theorem own_some {w : World} {b n c : Nat} {e : TypeId} {s : Nat} {A : Option Addr} {xs : List Value} (h : w.ownsRow b e s (.slice A n c) n xs) (hn : 0 < n) : ∃ g, A = some ⟨g, 0, none⟩ := by
  rcases h.2 with ⟨h1, h2⟩ | ⟨g', cap, cur, h1, _⟩
  · simp at h1; omega
  · simp at h1; exact ⟨g', h1.1⟩
theorem KeepR.set50 {w : World} {g : Nat} {cs : Array Value} (hb : Blk w g 50 cs) (i : Nat) (u : Value) : KeepR w (w.setCell ⟨g, i, none⟩ u) :=
  ⟨rfl, rfl, rfl, by simp [World.setCell], fun k o hb' h1 _ => (Below.heap_setCell w _ u k (by
    rintro rfl
    unfold Blk at hb
    rw [hb] at hb'
    injection hb' with hb'
    exact h1 _ _ hb'.symm)).trans hb'⟩
theorem rps_own {w : World} {base n cap : Nat} {A : Option Addr} {L : List Rp} (h : w.ownsRow base 50 5 (.slice A n cap) n (rcells L)) : Rps w A n L := by
  obtain ⟨A', cap', e, h0, _, _, h3⟩ := rps_of_own h
  simp only [Value.slice.injEq] at e
  obtain ⟨rfl, e2, rfl⟩ := e
  rw [e2]
  exact h3
/-- The reference's ledger while it is gone through: its packets, and those that are told. -/
structure LI (B : Nat) (w : World) (g : Nat) (A : Option Addr) (n cap : Nat) (nx ak : Int) (sm : Bool) (wr : World) (ov : Value) (X Y : List Rp) : Prop where
  len : X.length = n
  blk : Blk wr g 57 #[.slice A n cap, .int .u64 nx, .int .u64 ak, .bool sm]
  row : wr.ownsRow B 50 5 (.slice A n cap) n (rcells X)
  out : wr.ownsRow w.heap.size 50 5 ov Y.length (rcells Y)
  below : Below B w wr
  keep : KeepR w wr
  old : ∀ b, (Value.slice A n cap).ownBlock = some b → b < w.heap.size
  base : B ≤ w.heap.size
section
variable {B : Nat} {w : World} {g : Nat} {A : Option Addr} {n cap : Nat} {nx ak : Int} {sm : Bool} {wr w' : World} {ov : Value} {X Y : List Rp}
theorem LI.same (h : LI B w g A n cap nx ak sm wr ov X Y) (hb : Below wr.heap.size wr w') : LI B w g A n cap nx ak sm w' ov X Y :=
  ⟨h.len, h.blk.same hb, own_same h.row hb, own_same h.out hb, h.below.trans (hb.mono (Nat.le_trans h.base h.keep.size)), h.keep.trans (KeepR.below hb), h.old, h.base⟩
theorem LI.app (h : LI B w g A n cap nx ak sm wr ov X Y) {q : Rp} {v : Value} (ho : w'.ownsRow w.heap.size 50 5 v (Y.length + 1) (rcells Y ++ rpC q)) (hg : wr.grownBy w' ov.ownBlock) : LI B w g A n cap nx ak sm w' v X (Y ++ [q]) := by
  have hne := own_blk_ne h.out h.blk (by decide)
  refine ⟨h.len, h.blk.grown hg (Ne.symm hne), own_grown h.row hg ?_, ?_, ?_, h.keep.trans (KeepR.row hg h.out), h.old, h.base⟩
  · rcases hv : ov.ownBlock with _ | b
    · exact .inl rfl
    · exact .inr fun e => by
        have h1 := h.old b e
        have h2 := (h.out.lt b hv).1
        omega
  · rw [rcells_append]
    simpa [rcells] using ho
  · exact h.below.grown hg (Nat.le_trans h.base h.keep.size) (fun b hb => Nat.le_trans h.base (h.out.lt b hb).1)
theorem LI.set_ {gr : Nat} (h : LI B w g (some ⟨gr, 0, none⟩) n cap nx ak sm wr ov X Y) (k : Nat) (hk : k < n) : LI B w g (some ⟨gr, 0, none⟩) n cap nx ak sm (wr.setCell ⟨gr, k * 5 + 4, none⟩ (.bool true)) ov (X.set k ((X.getD k rp0).1, true)) Y := by
  have hne := own_blk_ne h.row h.blk (by decide)
  have hlt := h.row.lt gr rfl
  refine ⟨by rw [List.length_set]; exact h.len, h.blk.far (fun e => hne (by simp [Value.ownBlock, e])) _, ?_, own_far h.out (fun e => ?_) _, h.below.setCell hlt.1 _, ?_, h.old, h.base⟩
  · rw [← rcells_set X k (by rw [h.len]; exact hk) true]
    exact own_put h.row (k * 5 + 4) (by omega) _
  · have h1 := h.old gr rfl
    have h2 := (h.out.lt gr e).1
    omega
  · rcases h.row.2 with ⟨h', _⟩ | ⟨g', cap', cur, h', hb, hg, _⟩
    · simp at h'
    · simp only [Value.slice.injEq, Option.some.injEq, Addr.mk.injEq, and_true, true_and] at h'
      obtain ⟨rfl, rfl⟩ := h'
      exact h.keep.trans (KeepR.set50 hg _ _)
theorem LI.led (h : LI B w g A n cap nx ak sm wr ov X Y) (hg : B ≤ g) : RLed B wr g X nx ak sm := ⟨hg, _, h.blk, by rw [h.len]; exact h.row⟩
end
def mark (f : Pk → Bool) (q : Rp) : Rp := if (!q.2 && f q.1) = true then (q.1, true) else q
def outR (f : Pk → Bool) (L : List Rp) : List Rp := L.filter (fun q => !q.2 && f q.1)
def mk (f : Pk → Bool) (L : List Rp) (k : Nat) : List Rp := (L.take k).map (mark f) ++ L.drop k
theorem mk_len (f : Pk → Bool) (L : List Rp) (k : Nat) : (mk f L k).length = L.length := by simp [mk]; omega
theorem mk_zero (f : Pk → Bool) (L : List Rp) : mk f L 0 = L := by simp [mk]
theorem mk_full (f : Pk → Bool) (L : List Rp) : mk f L L.length = L.map (mark f) := by simp [mk]
theorem mk_at (f : Pk → Bool) (L : List Rp) (k : Nat) (hk : k < L.length) : (mk f L k).getD k rp0 = L.getD k rp0 := by
  have h1 : ((L.take k).map (mark f)).length = k := by simp; omega
  unfold mk
  rw [List.getD, List.getElem?_append_right (by omega), h1, Nat.sub_self, List.getElem?_drop]
  simp [List.getD]
theorem mk_succ (f : Pk → Bool) (L : List Rp) (k : Nat) (hk : k < L.length) : mk f L (k + 1) = (mk f L k).set k (mark f (L.getD k rp0)) := by
  have e : L.getD k rp0 = L[k] := by simp [List.getD, hk]
  have h1 : ((L.take k).map (mark f)).length = k := by simp; omega
  rw [e]
  unfold mk
  rw [List.set_append_right _ _ (by omega), h1, Nat.sub_self, List.take_succ_eq_append_getElem hk, List.drop_eq_getElem_cons hk, List.map_append, List.append_assoc]
  rfl
theorem mk_skip (f : Pk → Bool) (L : List Rp) (k : Nat) (hk : k < L.length) (h : mark f (L.getD k rp0) = L.getD k rp0) : mk f L (k + 1) = mk f L k := by
  have e2 : k < (mk f L k).length := by rw [mk_len]; exact hk
  have e1 : (mk f L k)[k] = L.getD k rp0 := by have := mk_at f L k hk; simpa [List.getD, e2] using this
  rw [mk_succ f L k hk, h, ← e1, List.set_getElem_self]
theorem outR_take (f : Pk → Bool) (L : List Rp) (k : Nat) (hk : k < L.length) : outR f (L.take (k + 1)) = outR f (L.take k) ++ (if (!(L.getD k rp0).2 && f (L.getD k rp0).1) = true then [L.getD k rp0] else []) := by
  have e : L.getD k rp0 = L[k] := by simp [List.getD, hk]
  rw [e, List.take_succ_eq_append_getElem hk, outR, List.filter_append]
  by_cases h : (!L[k].2 && f L[k].1) = true <;> simp [outR, h]
theorem outR_len (f : Pk → Bool) (L : List Rp) (k : Nat) : (outR f (L.take k)).length ≤ L.length := Nat.le_trans (List.length_filter_le _ _) (by simp; omega)
theorem mark_true {f : Pk → Bool} {q : Rp} (h : (!q.2 && f q.1) = true) : mark f q = (q.1, true) := by simp only [mark, h, if_true]
theorem mark_false {f : Pk → Bool} {q : Rp} (h : (!q.2 && f q.1) = false) : mark f q = q := by simp [mark, h]
theorem opn_mark (f : Pk → Bool) (L : List Rp) : opn (L.map (mark f)) = (opn L).filter (fun p => !f p) := by
  induction L with
  | nil => rfl
  | cons q r ih =>
    obtain ⟨p, b⟩ := q
    unfold opn at ih ⊢
    cases b <;> cases hf : f p <;> simp [mark, hf, ih]
theorem opn_out (f : Pk → Bool) (L : List Rp) : (outR f L).map (·.1) = (opn L).filter f := by
  induction L with
  | nil => rfl
  | cons q r ih =>
    obtain ⟨p, b⟩ := q
    unfold opn outR at ih ⊢
    cases b <;> cases hf : f p <;> simp [hf, ih]
theorem mark_fst (f : Pk → Bool) (L : List Rp) : (L.map (mark f)).map (·.1) = L.map (·.1) := by
  rw [List.map_map]
  congr 1
  funext q
  unfold mark
  show (if _ then _ else _ : Rp).1 = q.1
  split <;> rfl

set_option maxHeartbeats 4000000 in
set_option maxRecDepth 100000 in
theorem lostR_any (B g : Nat) (L : List Rp) (nx ak : Int) (sm : Bool) (now wait : Int) (w : World) (hl : RLed B w g L nx ak sm) (hBw : B ≤ w.heap.size) (hL : L.length ≤ 100000) (hk : ∀ q ∈ L, PkOk q.1) (hak : 0 ≤ ak ∧ ak ≤ 18446744073709551615) (hn : 0 ≤ now ∧ now ≤ 18446744073709551615) :
    Calls Try.prog 19 #[.pointer (some ⟨g, 0, none⟩), .int .u64 now, .int .u64 wait] w fun e w' => ∃ v, e = .returned v ∧ w'.ownsRow w.heap.size 50 5 v (outR (lostF sm ak now wait) L).length (rcells (outR (lostF sm ak now wait) L)) ∧
      RLed B w' g (L.map (mark (lostF sm ak now wait))) nx ak sm ∧ Below B w w' ∧ KeepR w w' := by
  obtain ⟨i0, hi, hz0, hz1, hz2⟩ := info_parts infoQ
  obtain ⟨hBg, V, hb, hown⟩ := hl
  obtain ⟨A, cap, rfl, _, hnc, hcm, _⟩ := rps_of_own hown
  have hcm' : cap ≤ 9223372036854775807 := by unfold maxLen at hcm; omega
  clear hcm
  have hI : LI B w g A L.length cap nx ak sm w (.slice none 0 0) L [] := ⟨rfl, hb, hown, World.ownsRow_nil _ _ _ _, Below.refl _ _, KeepR.refl _, fun b e => (hown.lt b e).2, hBw⟩
  obtain ⟨f, hf⟩ : ∃ f, f = lostF sm ak now wait := ⟨_, rfl⟩
  rw [← hf]
  have HF := Lib.hid hf
  have HK := Lib.hid hk
  clear hf hk
  have c0 : w.cell? ⟨g, 0, none⟩ = some (.slice A L.length cap) := hb.cell 0
  clear hb hown
  have hol := fun k => outR_len f L k
  have HOL := Lib.hid hol
  clear hol
  go_enter Try.func19, Try.ntmps19
  go_wp2_with fail
  clear c0
  go_loopw [7, 17] (fun s7 i wr => ∃ (ov : Value) (k : Nat), ov = s7 ∧ k ≤ L.length ∧ i = .int .i64 k ∧ LI B w g A L.length cap nx ak sm wr ov (mk f L k) (outR f (L.take k))) (fun _ i _ => L.length - (intOf i).toNat)
  case atStart => exact ⟨_, 0, rfl, Nat.zero_le _, rfl, by rw [mk_zero]; exact hI⟩
  case round =>
    clear hI
    obtain ⟨ov, k, rfl, hkn, rfl, hI⟩ := hrel
    have hn1 := HOL.out k
    by_cases hlt : k < L.length
    · have hrp := rps_own hI.row
      obtain ⟨b, off, rfl, hbl, c0, c1, c2, c3, c4⟩ := hrp.2 k hlt
      obtain ⟨gr, e⟩ := own_some hI.row (by omega)
      simp only [Option.some.injEq, Addr.mk.injEq, and_true] at e
      obtain ⟨rfl, rfl⟩ := e
      clear hrp
      rw [mk_at f L k hlt] at c0 c1 c2 c3 c4
      simp only [Nat.zero_add] at c0 c1 c2 c3 c4
      have T1 := outR_take f L k hlt
      have T2 := mk_succ f L k hlt
      have T3 := mk_skip f L k hlt
      have T4 := mk_at f L k hlt
      have hpo : PkOk (L.getD k rp0).1 := by
        have e : L.getD k rp0 = L[k] := by simp [List.getD, hlt]
        rw [e]
        exact HK.out _ (List.getElem_mem hlt)
      obtain ⟨p, hp⟩ : ∃ p, p = L.getD k rp0 := ⟨_, rfl⟩
      rw [← hp] at c0 c1 c2 c3 c4 T1 T2 T3 T4 hpo
      clear hp
      have X1 := Lib.hid T1
      have X2 := Lib.hid T2
      have X3 := Lib.hid T3
      have X4 := Lib.hid T4
      clear T1 T2 T3 T4
      obtain ⟨⟨pn, ps, pz, pa⟩, r⟩ := p
      obtain ⟨hpn, hps, _⟩ := hpo
      simp only at c0 c1 c2 c3 c4 hpn hps
      obtain ⟨Y, hY⟩ : ∃ Y, Y = outR f (L.take k) := ⟨_, rfl⟩
      rw [← hY] at hI hn1 X1
      clear hY
      have hbA := hI.blk.alloc (.cells #[.int .u64 pn, .int .u64 ps, .int .i64 pz, .bool pa, .bool r] 50)
      have g2 : World.cell? _ ⟨g, 2, none⟩ = some (.int .u64 ak) := hbA.cell 2
      have g3 : World.cell? _ ⟨g, 3, none⟩ = some (.bool sm) := hbA.cell 3
      have hgl := hI.blk.lt
      have hgne : g ≠ wr.heap.size := by omega
      clear hbA
      obtain ⟨q, hq⟩ : ∃ q, q = decide (ak ≤ pn) := ⟨_, rfl⟩
      have HQ := hq.symm
      clear hq
      have hI2 := hI.same ((Below.refl _ _).alloc (Nat.le_refl _) (.cells #[.int .u64 pn, .int .u64 ps, .int .i64 pz, .bool pa, .bool r] 50))
      cases r
      · cases sm
        · have HC : Hid ((!false && f ⟨pn, ps, pz, pa⟩) = false) := Lib.hid (by rw [HF.out]; simp [lostF, belowF])
          go_wp2_with (go_quiet (fail))
          clear c0 c1 c2 c3 c4 g2 g3
          go_roundw
          case rel => exact ⟨_, k + 1, rfl, by omega, by go_num, by rw [X3.out (mark_false HC.out), X1.out, if_neg (by rw [HC.out]; decide), List.append_nil]; exact hI2.same (below_drewN (Below.refl _ _) _)⟩
          case measure => simp [intOf]; omega
        · cases q
          · have hlt2 : pn < ak := by simpa using HQ
            have hw1 : IntKind.u64.wrap (ak - pn) = ak - pn := Go.IntWalk.u64_in _ (by omega)
            obtain ⟨c3b, hc3⟩ : ∃ c, c = decide (3 ≤ ak - pn) := ⟨_, rfl⟩
            have HC3 := hc3.symm
            clear hc3
            cases c3b
            · by_cases h4 : ps ≤ now
              · have hw2 : IntKind.u64.wrap (now - ps) = now - ps := Go.IntWalk.u64_in _ (by omega)
                have HC4 : decide (ps ≤ now) = true := decide_eq_true h4
                obtain ⟨c5b, hc5⟩ : ∃ c, c = decide (wait ≤ now - ps) := ⟨_, rfl⟩
                have HC5 := hc5.symm
                clear hc5
                cases c5b
                · have h3 : ¬ (3 ≤ ak - pn) := by simpa using HC3
                  have h5 : ¬ (wait ≤ now - ps) := by simpa using HC5
                  have h3' : ¬ (pn + 3 ≤ ak) := by omega
                  have HC : Hid ((!false && f ⟨pn, ps, pz, pa⟩) = false) := Lib.hid (by rw [HF.out]; simp [lostF, belowF, h3', h5])
                  clear h3 h5 h3'
                  go_wp2_with (go_quiet (fail))
                  clear c0 c1 c2 c3 c4 g2 g3
                  go_roundw
                  case rel => exact ⟨_, k + 1, rfl, by omega, by go_num, by rw [X3.out (mark_false HC.out), X1.out, if_neg (by rw [HC.out]; decide), List.append_nil]; exact hI2.same (below_drewN (Below.refl _ _) _)⟩
                  case measure => simp [intOf]; omega
                · have h5 : wait ≤ now - ps := by simpa using HC5
                  have HC : Hid ((!false && f ⟨pn, ps, pz, pa⟩) = true) := Lib.hid (by rw [HF.out]; simp [lostF, belowF, hlt2, h4, h5])
                  go_upto_region 9 with (go_quiet (fail))
                  go_wp2_with ((at_builtin; refine wpList_append_any _ rfl _ _ 55 rfl w.heap.size 50 i0 _ 5 32 Try.underlying55 hi hz0 hz1 hz2 rfl (by decide) ov Y.length _ rfl ((hI2.same (below_drewN (Below.refl _ _) _)).out.alloc _) (some ⟨wr.heap.size + 1, 0, none⟩) 1 1 (rpC (⟨pn, ps, pz, pa⟩, false)) rfl (rp_rdv _ ⟨pn, ps, pz, pa⟩ false (blk_new_at (by simp))) (rpC_one _) (by unfold maxLen; omega) (by omega) (by have := hI2.keep.size; simp at this ⊢; omega) (by simp) ?_; intro v4 w4 hown4 hgrow4 hat4; have hI4 := LI.app ((hI2.same (below_drewN (Below.refl _ _) _)).same ((Below.refl _ _).alloc (Nat.le_refl _) _)) hown4 hgrow4; have k0 : World.cell? w4 ⟨g, 0, none⟩ = some (.slice (some ⟨b, 0, none⟩) L.length cap) := hI4.blk.cell 0; obtain ⟨k1, k2⟩ := own_cell_at hI4.row (k * 5 + 4) (by omega)))
                  have hI5 := hI4.set_ k hlt
                  rw [X4.out] at hI5
                  clear c0 c1 c2 c3 c4 g2 g3 hI hI2 hI4 k0 k1 k2 hown4 hgrow4 hat4
                  go_roundw
                  case rel => exact ⟨_, k + 1, rfl, by omega, by go_num, by rw [X2.out, mark_true (q := (⟨pn, ps, pz, pa⟩, false)) HC.out, X1.out, if_pos HC.out]; exact hI5⟩
                  case measure => simp [intOf]; omega
              · have HC4 : decide (ps ≤ now) = false := decide_eq_false h4
                have h3 : ¬ (3 ≤ ak - pn) := by simpa using HC3
                have h3' : ¬ (pn + 3 ≤ ak) := by omega
                have HC : Hid ((!false && f ⟨pn, ps, pz, pa⟩) = false) := Lib.hid (by rw [HF.out]; simp [lostF, belowF, h3', h4])
                clear h3 h3'
                go_wp2_with (go_quiet (fail))
                clear c0 c1 c2 c3 c4 g2 g3
                go_roundw
                case rel => exact ⟨_, k + 1, rfl, by omega, by go_num, by rw [X3.out (mark_false HC.out), X1.out, if_neg (by rw [HC.out]; decide), List.append_nil]; exact hI2.same (below_drewN (Below.refl _ _) _)⟩
                case measure => simp [intOf]; omega
            · have h3 : 3 ≤ ak - pn := by simpa using HC3
              have h3' : pn + 3 ≤ ak := by omega
              have HC : Hid ((!false && f ⟨pn, ps, pz, pa⟩) = true) := Lib.hid (by rw [HF.out]; simp [lostF, belowF, hlt2, h3'])
              go_upto_region 9 with (go_quiet (fail))
              go_wp2_with ((at_builtin; refine wpList_append_any _ rfl _ _ 55 rfl w.heap.size 50 i0 _ 5 32 Try.underlying55 hi hz0 hz1 hz2 rfl (by decide) ov Y.length _ rfl ((hI2.same (below_drewN (Below.refl _ _) _)).out.alloc _) (some ⟨wr.heap.size + 1, 0, none⟩) 1 1 (rpC (⟨pn, ps, pz, pa⟩, false)) rfl (rp_rdv _ ⟨pn, ps, pz, pa⟩ false (blk_new_at (by simp))) (rpC_one _) (by unfold maxLen; omega) (by omega) (by have := hI2.keep.size; simp at this ⊢; omega) (by simp) ?_; intro v4 w4 hown4 hgrow4 hat4; have hI4 := LI.app ((hI2.same (below_drewN (Below.refl _ _) _)).same ((Below.refl _ _).alloc (Nat.le_refl _) _)) hown4 hgrow4; have k0 : World.cell? w4 ⟨g, 0, none⟩ = some (.slice (some ⟨b, 0, none⟩) L.length cap) := hI4.blk.cell 0; obtain ⟨k1, k2⟩ := own_cell_at hI4.row (k * 5 + 4) (by omega)))
              have hI5 := hI4.set_ k hlt
              rw [X4.out] at hI5
              clear c0 c1 c2 c3 c4 g2 g3 hI hI2 hI4 k0 k1 k2 hown4 hgrow4 hat4
              go_roundw
              case rel => exact ⟨_, k + 1, rfl, by omega, by go_num, by rw [X2.out, mark_true (q := (⟨pn, ps, pz, pa⟩, false)) HC.out, X1.out, if_pos HC.out]; exact hI5⟩
              case measure => simp [intOf]; omega
          · have hlt3 : ak ≤ pn := by simpa using HQ
            have hlt2 : ¬ pn < ak := by omega
            have HC : Hid ((!false && f ⟨pn, ps, pz, pa⟩) = false) := Lib.hid (by rw [HF.out]; simp [lostF, belowF, hlt2])
            go_wp2_with (go_quiet (fail))
            clear c0 c1 c2 c3 c4 g2 g3
            go_roundw
            case rel => exact ⟨_, k + 1, rfl, by omega, by go_num, by rw [X3.out (mark_false HC.out), X1.out, if_neg (by rw [HC.out]; decide), List.append_nil]; exact hI2.same (below_drewN (Below.refl _ _) _)⟩
            case measure => simp [intOf]; omega
      · have HC : Hid ((!true && f ⟨pn, ps, pz, pa⟩) = false) := Lib.hid (by simp)
        go_wp2_with (go_quiet (fail))
        clear c0 c1 c2 c3 c4 g2 g3
        go_roundw
        case rel => exact ⟨_, k + 1, rfl, by omega, by go_num, by rw [X3.out (mark_false HC.out), X1.out, if_neg (by rw [HC.out]; decide), List.append_nil]; exact hI2.same (below_drewN (Below.refl _ _) _)⟩
        case measure => simp [intOf]; omega
    · have htk : L.take k = L := List.take_of_length_le (by omega)
      obtain rfl : k = L.length := by omega
      rw [mk_full, htk] at hI
      obtain ⟨A1, cp1, rfl, _⟩ := sl_of_own hI.out
      go_wp2_with fail
      go_ret
      exact ⟨_, rfl, hI.out, hI.led hBg, hI.below, hI.keep⟩

theorem outR_all (L : List Rp) : outR (fun _ => true) L = opR L := by unfold outR opR; congr 1; funext q; simp
set_option maxHeartbeats 4000000 in
set_option maxRecDepth 100000 in
theorem clearR_any (B g : Nat) (L : List Rp) (nx ak : Int) (sm : Bool) (w : World) (hl : RLed B w g L nx ak sm) (hBw : B ≤ w.heap.size) (hL : L.length ≤ 100000) :
    Calls Try.prog 20 #[.pointer (some ⟨g, 0, none⟩)] w fun e w' => ∃ v, e = .returned v ∧ w'.ownsRow w.heap.size 50 5 v (opR L).length (rcells (opR L)) ∧
      RLed B w' g (L.map (mark fun _ => true)) nx ak sm ∧ Below B w w' ∧ KeepR w w' := by
  have hop := openR_any B g L nx ak sm w hl hL
  obtain ⟨hBg, V, hb, hown⟩ := hl
  obtain ⟨A, cap, rfl, _, hnc, hcm, _⟩ := rps_of_own hown
  have hcm' : cap ≤ 9223372036854775807 := by unfold maxLen at hcm; omega
  clear hcm
  have hI0 : LI B w g A L.length cap nx ak sm w (.slice none 0 0) L [] := ⟨rfl, hb, hown, World.ownsRow_nil _ _ _ _, Below.refl _ _, KeepR.refl _, fun b e => (hown.lt b e).2, hBw⟩
  clear hb hown
  obtain ⟨O, hO⟩ : ∃ O, O = opR L := ⟨_, rfl⟩
  rw [← hO] at hop ⊢
  clear hO
  obtain ⟨f, hf⟩ : ∃ f : Pk → Bool, f = fun _ => true := ⟨_, rfl⟩
  rw [← hf]
  have HM : ∀ q : Rp, mark f q = (q.1, true) := fun q => by rw [hf]; obtain ⟨p, b⟩ := q; cases b <;> rfl
  clear hf
  go_enter Try.func20, Try.ntmps20
  go_wp2_with fail
  refine hop.mono ?_
  rintro e w1 ⟨ov, rfl, ho1, hB1⟩
  have hI1 := hI0.same hB1
  have hI : LI B w g A L.length cap nx ak sm w1 ov L O := ⟨hI1.len, hI1.blk, hI1.row, ho1, hI1.below, hI1.keep, hI1.old, hI1.base⟩
  have c0 : w1.cell? ⟨g, 0, none⟩ = some (.slice A L.length cap) := hI.blk.cell 0
  clear hop hI0 hI1 ho1 hB1
  go_wp2_with fail
  clear c0
  go_loopw [14] (fun i wr => ∃ (k : Nat), k ≤ L.length ∧ i = .int .i64 k ∧ LI B w g A L.length cap nx ak sm wr ov (mk f L k) O) (fun i _ => L.length - (intOf i).toNat)
  case atStart => exact ⟨0, Nat.zero_le _, rfl, by rw [mk_zero]; exact hI⟩
  case round =>
    clear hI
    obtain ⟨k, hkn, rfl, hI⟩ := hrel
    by_cases hlt : k < L.length
    · obtain ⟨b, rfl⟩ := own_some hI.row (by omega)
      have c0 : wr.cell? ⟨g, 0, none⟩ = some (.slice (some ⟨b, 0, none⟩) L.length cap) := hI.blk.cell 0
      obtain ⟨k1, k2⟩ := own_cell_at hI.row (k * 5 + 4) (by omega)
      have T2 := mk_succ f L k hlt
      rw [HM] at T2
      have hI5 := hI.set_ k hlt
      rw [mk_at f L k hlt, ← T2] at hI5
      clear T2
      go_wp2_with fail
      go_roundw
      case rel => exact ⟨k + 1, by omega, by go_num, hI5⟩
      case measure => simp [intOf]; omega
    · obtain rfl : k = L.length := by omega
      rw [mk_full] at hI
      obtain ⟨A1, cp1, rfl, _⟩ := sl_of_own hI.out
      go_wp2_with fail
      go_ret
      exact ⟨_, rfl, hI.out, hI.led hBg, hI.below, hI.keep⟩

end Go.Proofs.Ytohjifbkjfnkfaa
