/-
  The reference's ledger: its packets, all that were sent, each with whether it is gone; what it keeps. No condition.
-/
import Derived.Test.YtohjifbkjfnkfaaLops
namespace Go.Proofs.Ytohjifbkjfnkfaa
open Go.RowKit
set_option linter.unusedVariables false
set_option linter.unusedSimpArgs false

abbrev Rp := Pk × Bool
def rp0 : Rp := (pk0, false)
def rpC (q : Rp) : List Value := [.int .u64 q.1.num, .int .u64 q.1.sent, .int .i64 q.1.size, .bool q.1.asks, .bool q.2]
def rcells (L : List Rp) : List Value := L.flatMap rpC
theorem rcells_len (L : List Rp) : (rcells L).length = L.length * 5 := by
  induction L with
  | nil => rfl
  | cons p r ih => simp only [rcells, List.flatMap_cons, List.length_append, List.length_cons] at ih ⊢; rw [ih]; simp [rpC]; omega
theorem rcells_at (L : List Rp) (k j : Nat) (hk : k < L.length) (hj : j < 5) : (rcells L).getD (k * 5 + j) undef = (rpC (L.getD k rp0)).getD j undef := by
  induction L generalizing k with
  | nil => simp at hk
  | cons p r ih =>
    have hl : (rpC p).length = 5 := rfl
    cases k with
    | zero => simp [rcells, List.flatMap_cons, List.getD, List.getElem?_append_left (show j < (rpC p).length by omega)]
    | succ k =>
      have := ih k (by simpa using hk)
      simp only [rcells] at this
      simp only [rcells, List.flatMap_cons, List.getD, List.getElem?_append_right (show (rpC p).length ≤ (k + 1) * 5 + j by omega), hl]
      rw [show (k + 1) * 5 + j - 5 = k * 5 + j by omega]
      simpa [List.getD] using this
theorem rcells_append (A B : List Rp) : rcells (A ++ B) = rcells A ++ rcells B := by simp [rcells]
theorem rcells_set (L : List Rp) (k : Nat) (hk : k < L.length) (b : Bool) : (rcells L).set (k * 5 + 4) (.bool b) = rcells (L.set k ((L.getD k rp0).1, b)) := by
  induction L generalizing k with
  | nil => simp at hk
  | cons p r ih =>
    cases k with
    | zero => rfl
    | succ k =>
      have := ih k (by simpa using hk)
      rw [show (k + 1) * 5 + 4 = (k * 5 + 4) + 5 by omega]
      show (rpC p ++ rcells r).set _ _ = rpC p ++ rcells (r.set k _)
      rw [List.set_append_right _ _ (by simp [rpC])]
      rw [show k * 5 + 4 + 5 - (rpC p).length = k * 5 + 4 by simp [rpC], this]
      rfl
theorem rpC_one (q : Rp) : ∀ u ∈ rpC q, u.oneCell' = true := by
  intro u hu
  simp [rpC] at hu
  rcases hu with rfl | rfl | rfl | rfl | rfl <;> rfl
theorem rcells_one (L : List Rp) : ∀ u ∈ rcells L, u.oneCell' = true := by
  intro u hu
  obtain ⟨q, _, hq⟩ := List.mem_flatMap.1 hu
  exact rpC_one q u hq
def Rps (w : World) (A : Option Addr) (n : Nat) (L : List Rp) : Prop :=
  L.length = n ∧ ∀ k, k < n → ∃ b off, A = some ⟨b, off, none⟩ ∧ b < w.heap.size ∧ w.cell? ⟨b, off + k * 5, none⟩ = some (.int .u64 (L.getD k rp0).1.num) ∧ w.cell? ⟨b, off + k * 5 + 1, none⟩ = some (.int .u64 (L.getD k rp0).1.sent) ∧
    w.cell? ⟨b, off + k * 5 + 2, none⟩ = some (.int .i64 (L.getD k rp0).1.size) ∧ w.cell? ⟨b, off + k * 5 + 3, none⟩ = some (.bool (L.getD k rp0).1.asks) ∧ w.cell? ⟨b, off + k * 5 + 4, none⟩ = some (.bool (L.getD k rp0).2)
theorem Rps.below {w w' : World} {A : Option Addr} {n : Nat} {L : List Rp} (h : Rps w A n L) (hb : Below w.heap.size w w') : Rps w' A n L :=
  ⟨h.1, fun k hk => by
    obtain ⟨b, off, e, hlt, h0, h1, h2, h3, h4⟩ := h.2 k hk
    exact ⟨b, off, e, Nat.lt_of_lt_of_le hlt hb.size, (hb.cell (p := ⟨b, _, none⟩) hlt).trans h0, (hb.cell (p := ⟨b, _, none⟩) hlt).trans h1, (hb.cell (p := ⟨b, _, none⟩) hlt).trans h2, (hb.cell (p := ⟨b, _, none⟩) hlt).trans h3, (hb.cell (p := ⟨b, _, none⟩) hlt).trans h4⟩⟩
theorem rps_of_own {w : World} {base n : Nat} {v : Value} {L : List Rp} (h : w.ownsRow base 50 5 v n (rcells L)) : ∃ A cap, v = .slice A L.length cap ∧ n = L.length ∧ L.length ≤ cap ∧ cap ≤ maxLen ∧ Rps w A L.length L := by
  have hn : n = L.length := by have := h.1; rw [rcells_len] at this; omega
  subst hn
  obtain ⟨A, cap, e, h1, h2, h3⟩ := sl_of_own h
  refine ⟨A, cap, e, rfl, h1, h2, rfl, fun k hk => ?_⟩
  obtain ⟨b, off, ea, hb, hc⟩ := h3 k hk
  have key : ∀ j, j < 5 → w.cell? ⟨b, off + (k * 5 + j), none⟩ = some ((rpC (L.getD k rp0)).getD j undef) := fun j hj => (hc j hj).trans (congrArg some (rcells_at L k j hk hj))
  exact ⟨b, off, ea, hb, by simpa [rpC] using key 0 (by decide), by simpa [rpC, Nat.add_assoc] using key 1 (by decide), by simpa [rpC, Nat.add_assoc] using key 2 (by decide), by simpa [rpC, Nat.add_assoc] using key 3 (by decide), by simpa [rpC, Nat.add_assoc] using key 4 (by decide)⟩
theorem infoQ : (Try.prog.info? 50).map (fun i => (i.zero, i.size, i.bytes)) = some (some (.agg #[.int .u64 0, .int .u64 0, .int .i64 0, .bool false, .bool false]), 5, 32) := by kernel_rfl
theorem rp_rdv (w : World) (p : Pk) (r : Bool) {g : Nat} (hb : Blk w g 50 #[.int .u64 p.num, .int .u64 p.sent, .int .i64 p.size, .bool p.asks, .bool r]) : RdV w 5 (some ⟨g, 0, none⟩) 1 (rpC (p, r)) :=
  ⟨rfl, fun k hk => ⟨g, 0, rfl, hb.lt, fun j hj => by
    obtain rfl : k = 0 := by omega
    have := hb.cell j
    rw [show 0 + (0 * 5 + j) = j by omega, this]
    match j, hj with
    | 0, _ => rfl
    | 1, _ => rfl
    | 2, _ => rfl
    | 3, _ => rfl
    | 4, _ => rfl⟩⟩
/-- The reference's ledger. -/
def RLed (B : Nat) (w : World) (g : Nat) (L : List Rp) (nx ak : Int) (sm : Bool) : Prop :=
  B ≤ g ∧ ∃ V, Blk w g 57 #[V, .int .u64 nx, .int .u64 ak, .bool sm] ∧ w.ownsRow B 50 5 V L.length (rcells L)
theorem RLed.below {B : Nat} {w w' : World} {g : Nat} {L : List Rp} {nx ak : Int} {sm : Bool} (h : RLed B w g L nx ak sm) (hb : Below w.heap.size w w') : RLed B w' g L nx ak sm := by
  obtain ⟨h0, V, h1, h2⟩ := h
  exact ⟨h0, V, h1.same hb, own_same h2 hb⟩
theorem RLed.lt {B : Nat} {w : World} {g : Nat} {L : List Rp} {nx ak : Int} {sm : Bool} (h : RLed B w g L nx ak sm) : g < w.heap.size := by obtain ⟨_, V, h1, _⟩ := h; exact h1.lt
structure KeepR (w w' : World) : Prop where
  os : w'.os = w.os
  tape : w'.tape = w.tape
  output : w'.output = w.output
  size : w.heap.size ≤ w'.heap.size
  block : ∀ (i : Nat) (o : Obj), w.heap[i]? = some o → (∀ cs fz, o ≠ .cells cs 50 fz) → (∀ cs fz, o ≠ .cells cs 57 fz) → w'.heap[i]? = some o
theorem KeepR.refl (w : World) : KeepR w w := ⟨rfl, rfl, rfl, Nat.le_refl _, fun _ _ h _ _ => h⟩
theorem KeepR.trans {a b c : World} (h : KeepR a b) (k : KeepR b c) : KeepR a c := ⟨k.os.trans h.os, k.tape.trans h.tape, k.output.trans h.output, Nat.le_trans h.size k.size, fun i o hb h1 h2 => k.block i o (h.block i o hb h1 h2) h1 h2⟩
theorem KeepR.drew {a b : World} (h : KeepR a b) : KeepR a b.drew := ⟨h.os, h.tape, h.output, h.size, h.block⟩
theorem KeepR.below {w w' : World} (h : Below w.heap.size w w') : KeepR w w' := ⟨h.os, h.tape, h.output, h.size, fun i o hb _ _ => (h.block i (Array.getElem?_eq_some_iff.1 hb).1).trans hb⟩
theorem KeepR.grown {w w' : World} {g : Nat} {cs : Array Value} (h : w.grownBy w' (some g)) (hb : Blk w g 57 cs) : KeepR w w' :=
  ⟨h.os, h.tape, h.output, h.size, fun i o hb' _ h2 => (h.block i (Array.getElem?_eq_some_iff.1 hb').1 (by
    intro e
    injection e with e
    subst e
    unfold Blk at hb
    rw [hb] at hb'
    injection hb' with hb'
    exact h2 _ _ hb'.symm)).trans hb'⟩
theorem KeepR.row {w w' : World} {v : Value} {base n : Nat} {xs : List Value} (h : w.grownBy w' v.ownBlock) (hb : w.ownsRow base 50 5 v n xs) : KeepR w w' :=
  ⟨h.os, h.tape, h.output, h.size, fun i o hb' h1 _ => (h.block i (Array.getElem?_eq_some_iff.1 hb').1 (by
    intro e
    rcases hb.2 with ⟨rfl, _⟩ | ⟨g', cap, cur, rfl, _, hh, _⟩
    · simp [Value.ownBlock] at e
    · have : i = g' := by simpa [Value.ownBlock] using e
      subst this
      rw [hh] at hb'
      injection hb' with hb'
      exact h1 _ _ hb'.symm)).trans hb'⟩
theorem KeepR.set {w : World} {g : Nat} {cs : Array Value} (hb : Blk w g 57 cs) (i : Nat) (u : Value) : KeepR w (w.setCell ⟨g, i, none⟩ u) :=
  ⟨rfl, rfl, rfl, by simp [World.setCell], fun k o hb' _ h2 => (Below.heap_setCell w _ u k (by
    rintro rfl
    unfold Blk at hb
    rw [hb] at hb'
    injection hb' with hb'
    exact h2 _ _ hb'.symm)).trans hb'⟩
theorem KeepR.blk {w w' : World} (h : KeepR w w') {i : Nat} {t : TypeId} {cs : Array Value} (hb : Blk w i t cs) (h1 : t ≠ 50) (h2 : t ≠ 57) : Blk w' i t cs :=
  h.block i _ hb (fun cs' fz e => by injection e with _ e; exact h1 e) (fun cs' fz e => by injection e with _ e; exact h2 e)
theorem KeepR.map {w w' : World} (h : KeepR w w') (i : Nat) (es : Array MapEntry) (cl : Nat) (hb : w.heap[i]? = some (.map es cl)) : w'.heap[i]? = some (.map es cl) :=
  h.block i _ hb (fun cs fz e => by cases e) (fun cs fz e => by cases e)
theorem own_keep {w w' : World} {base n sz : Nat} {e : TypeId} {v : Value} {xs : List Value} (h : w.ownsRow base e sz v n xs) (hk : ∀ g cs, Blk w g e cs → Blk w' g e cs) : w'.ownsRow base e sz v n xs := by
  refine ⟨h.1, ?_⟩
  rcases h.2 with h2 | ⟨g, cap, cur, rfl, hg, hh, r⟩
  · exact .inl h2
  · exact .inr ⟨g, cap, cur, rfl, hg, hk g cur hh, r⟩
theorem RLed.keep {B : Nat} {w w' : World} {g : Nat} {L : List Rp} {nx ak : Int} {sm : Bool} (h : RLed B w g L nx ak sm) (hk : KeepL w w') : RLed B w' g L nx ak sm := by
  obtain ⟨h0, V, h1, h2⟩ := h
  exact ⟨h0, V, hk.blk h1 (by decide) (by decide), own_keep h2 fun g cs hb => hk.blk hb (by decide) (by decide)⟩
theorem Led.keep {B : Nat} {w w' : World} {g : Nat} {L : List Pk} {nx ak : Int} {sm : Bool} (h : Led B w g L nx ak sm) (hk : KeepR w w') : Led B w' g L nx ak sm := by
  obtain ⟨h0, V, h1, h2⟩ := h
  exact ⟨h0, V, hk.blk h1 (by decide) (by decide), own_keep h2 fun g cs hb => hk.blk hb (by decide) (by decide)⟩
/-- Those that are under way. -/
def opn (L : List Rp) : List Pk := (L.filter (fun q => !q.2)).map (·.1)
def opR (L : List Rp) : List Rp := L.filter (fun q => !q.2)
theorem opR_take (L : List Rp) (k : Nat) (hk : k < L.length) : opR (L.take (k + 1)) = opR (L.take k) ++ (if !(L.getD k rp0).2 then [L.getD k rp0] else []) := by
  have e : L.getD k rp0 = L[k] := by simp [List.getD, hk]
  rw [e, List.take_succ_eq_append_getElem hk, opR, List.filter_append]
  by_cases h : L[k].2 <;> simp [opR, h]
theorem opR_len (L : List Rp) (k : Nat) : (opR (L.take k)).length ≤ L.length := Nat.le_trans (List.length_filter_le _ _) (by simp; omega)
set_option maxRecDepth 100000 in
set_option maxHeartbeats 4000000 in
theorem openR_any (B g : Nat) (L : List Rp) (nx ak : Int) (sm : Bool) (w : World) (hl : RLed B w g L nx ak sm) (hL : L.length ≤ 100000) :
    Calls Try.prog 22 #[.pointer (some ⟨g, 0, none⟩)] w fun e w' => ∃ v, e = .returned v ∧ w'.ownsRow w.heap.size 50 5 v (opR L).length (rcells (opR L)) ∧ Below w.heap.size w w' := by
  obtain ⟨i0, hi, hz0, hz1, hz2⟩ := info_parts infoQ
  obtain ⟨hBg, V, hb, hown⟩ := hl
  obtain ⟨A, cap, rfl, _, hnc, hcm, hpk⟩ := rps_of_own hown
  have hcm' : cap ≤ 9223372036854775807 := by unfold maxLen at hcm; omega
  clear hcm
  have HP := Lib.hid hpk
  clear hpk
  have c0 : w.cell? ⟨g, 0, none⟩ = some (.slice A L.length cap) := hb.cell 0
  clear hb hown
  have hfl := opR_len L
  have HF := Lib.hid hfl
  clear hfl
  go_enter Try.func22, Try.ntmps22
  go_wp2_with fail
  clear c0
  go_loopw [3, 13] (fun s3 i wr => ∃ (ov : Value) (k : Nat), ov = s3 ∧ k ≤ L.length ∧ i = .int .i64 k ∧ wr.ownsRow w.heap.size 50 5 ov (opR (L.take k)).length (rcells (opR (L.take k))) ∧ Below w.heap.size w wr) (fun _ i _ => L.length - (intOf i).toNat)
  case atStart => exact ⟨_, 0, rfl, Nat.zero_le _, rfl, World.ownsRow_nil _ _ _ _, Below.refl _ _⟩
  case round =>
    obtain ⟨ov, k, rfl, hkn, rfl, hO, hB⟩ := hrel
    have hn1 := HF.out k
    by_cases hlt : k < L.length
    · obtain ⟨b, off, rfl, hbl, c0, c1, c2, c3, c4⟩ := (HP.out.below hB).2 k hlt
      have T1 := Lib.hid (opR_take L k hlt)
      obtain ⟨p, hp⟩ : ∃ p, p = L.getD k rp0 := ⟨_, rfl⟩
      rw [← hp] at c0 c1 c2 c3 c4 T1
      clear hp
      obtain ⟨F1, hF1⟩ : ∃ F1, F1 = opR (L.take k) := ⟨_, rfl⟩
      rw [← hF1] at hO T1 hn1
      clear hF1
      obtain ⟨⟨pn, ps, pz, pa⟩, r⟩ := p
      simp only at c0 c1 c2 c3 c4
      have hB1 := hB.alloc hB.size (.cells #[.int .u64 pn, .int .u64 ps, .int .i64 pz, .bool pa, .bool r] 50)
      have hO1 := hO.alloc (.cells #[.int .u64 pn, .int .u64 ps, .int .i64 pz, .bool pa, .bool r] 50)
      cases r
      · replace T1 : Hid (opR (L.take (k + 1)) = F1 ++ [(⟨pn, ps, pz, pa⟩, false)]) := Lib.hid (by simpa using T1.out)
        go_wp2_with (at_builtin; refine wpList_append_any _ rfl _ _ 55 rfl w.heap.size 50 i0 _ 5 32 Try.underlying55 hi hz0 hz1 hz2 rfl (by decide) ov F1.length _ rfl (hO1.alloc _) (some ⟨wr.heap.size + 1, 0, none⟩) 1 1 (rpC (⟨pn, ps, pz, pa⟩, false)) rfl (rp_rdv _ ⟨pn, ps, pz, pa⟩ false (blk_new_at (by simp))) (rpC_one _) (by unfold maxLen; omega) (by omega) (by have := hB1.size; simp at this ⊢; omega) (by simp) ?_; intro v4 w4 hown4 hgrow4 hat4)
        have hB2 := hB1.alloc hB1.size (.cells #[.int .u64 pn, .int .u64 ps, .int .i64 pz, .bool pa, .bool false] 50)
        have hB4 := hB2.grown hgrow4 hB2.size (fun b hb => (hO1.lt b hb).1)
        clear c0 c1 c2 c3 c4 hO hO1 hB hB1 hB2 hgrow4 hat4
        go_roundw
        case rel => exact ⟨_, k + 1, rfl, by omega, by go_num, by rw [T1.out, rcells_append]; simpa [rcells] using hown4, hB4⟩
        case measure => simp [intOf]; omega
      · replace T1 : Hid (opR (L.take (k + 1)) = F1) := Lib.hid (by simpa using T1.out)
        go_wp2_with fail
        clear c0 c1 c2 c3 c4 hO hB
        go_roundw
        case rel => exact ⟨_, k + 1, rfl, by omega, by go_num, by rw [T1.out]; exact hO1, hB1⟩
        case measure => simp [intOf]; omega
    · have htk : L.take k = L := List.take_of_length_le (by omega)
      rw [htk] at hO
      clear htk
      obtain ⟨A1, cp1, rfl, _⟩ := sl_of_own hO
      go_wp2_with fail
      go_ret
      exact ⟨_, rfl, hO, hB⟩

end Go.Proofs.Ytohjifbkjfnkfaa
