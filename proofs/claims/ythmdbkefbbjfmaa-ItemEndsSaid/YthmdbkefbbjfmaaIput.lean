/-
  What a reader does, round by round, in plain words; objects in a row; what front and object leave of the rest.
-/
import Derived.Test.YthmdbkefbbjfmaaIobj2
namespace Go.Proofs.Ythmdbkefbbjfmaa
open Go.RowKit
set_option linter.unusedVariables false
set_option linter.unusedSimpArgs false


theorem infoO : (Try.prog.info? 29).map (fun i => (i.zero, i.size, i.bytes)) = some (some (.agg #[.int .u64 0, .int .u64 0, .int .u8 0, .bool false, .slice none 0 0]), 5, 48) := by kernel_rfl
/-- A reader's state. -/
structure RS where
  b : Bool
  h : Bool × Int × Int × Int
  sm : Bool
  lg : Int
  lo : Int
  p : List Int
  out : List ((Int × Int × Int) × List Int)
  e : Int
def RS.cont (s : RS) : Bool := decide (s.e = 0) && (decide (s.p ≠ []) || !s.b)
def stepF (s : RS) : RS :=
  { s with b := ((frontS (s.p, 0)).2.2 == 0), h := (frontS (s.p, 0)).1.getD s.h, p := if (frontS (s.p, 0)).2.2 = 0 then (frontS (s.p, 0)).2.1 else s.p, e := (frontS (s.p, 0)).2.2 }
def stepO (s : RS) : RS :=
  if (objS s.h.1 s.h.2.2.1 s.h.2.2.2 s.sm s.lg s.lo (s.p, 0)).2.2.2 = 0 then
    { s with sm := true, lg := (objS s.h.1 s.h.2.2.1 s.h.2.2.2 s.sm s.lg s.lo (s.p, 0)).1.1, lo := (objS s.h.1 s.h.2.2.1 s.h.2.2.2 s.sm s.lg s.lo (s.p, 0)).1.2.1, p := (objS s.h.1 s.h.2.2.1 s.h.2.2.2 s.sm s.lg s.lo (s.p, 0)).2.2.1, out := s.out ++ [((objS s.h.1 s.h.2.2.1 s.h.2.2.2 s.sm s.lg s.lo (s.p, 0)).1, (objS s.h.1 s.h.2.2.1 s.h.2.2.2 s.sm s.lg s.lo (s.p, 0)).2.1)], e := 0 }
  else { s with e := (objS s.h.1 s.h.2.2.1 s.h.2.2.2 s.sm s.lg s.lo (s.p, 0)).2.2.2 }
def stepR (s : RS) : RS := if s.b = false then stepF s else stepO s
def iterR : Nat → RS → RS
  | 0, s => s
  | n + 1, s => stepR (iterR n s)
def rs0 (l : List Int) : RS := ⟨false, (false, 0, 0, 0), false, 0, 0, l, [], 0⟩
def putE (e : Int) (fin : Bool) : Int := if e = 3 ∨ e = 4 ∨ (e = 2 ∧ fin = true) then 4 else 0
/-! Each success takes a byte or more. -/
theorem num_short (s : List Int × Int) (hk : BytesOk s.1) (h : (numS s).2.2 = 0) : s.2 = 0 ∧ (numS s).2.1.length < s.1.length := by
  unfold numS at h ⊢
  by_cases he : s.2 = 0
  · rw [if_pos he] at h ⊢
    refine ⟨he, ?_⟩
    rcases ht : vtake s.1 with _ | ⟨n, r⟩
    · rw [takeR_none ht] at h
      simp at h
    · rw [takeR_some ht]
      obtain ⟨_, _, x, r', hl, hw, hr, _⟩ := vtake_some hk ht
      have hb := hk x (by rw [hl]; simp)
      simp only
      rw [hr, List.length_drop]
      have hlen : s.1.length = r'.length + 1 := by rw [hl]; rfl
      rcases vw_cases x hb.1 hb.2 with ⟨_, e⟩ | ⟨_, e⟩ | ⟨_, e⟩ | ⟨_, e⟩ <;> omega
  · rw [if_neg he] at h
    exact absurd h he
theorem num_le (s : List Int × Int) (hk : BytesOk s.1) : (numS s).2.1.length ≤ s.1.length := by
  unfold numS
  split
  · exact (takeR_ok hk).2.1
  · exact Nat.le_refl _
theorem one_e (s : List Int × Int) (h : (oneS s).2.2 = 0) : s.2 = 0 ∧ (oneS s).2.1.length ≤ s.1.length := by
  obtain ⟨l, e⟩ := s
  unfold oneS at h ⊢
  by_cases he : e ≠ 0
  · rw [if_pos he] at h
    exact absurd h he
  · rw [if_neg he] at h ⊢
    match l, h with
    | [], h => simp at h
    | b :: r, _ => exact ⟨by simpa using he, by simp⟩
theorem text_e (s : List Int × Int) (hk : BytesOk s.1) (h : (textS s).2.2 = 0) : s.2 = 0 ∧ (textS s).2.1.length ≤ s.1.length := by
  unfold textS at h ⊢
  by_cases he : s.2 = 0
  · simp only [if_pos he] at h ⊢
    refine ⟨he, ?_⟩
    rcases ht : vtake s.1 with _ | ⟨n, r⟩
    · rw [vtext_none _ ht] at h; simp at h
    · rw [vtext_some _ ht] at h ⊢
      obtain ⟨_, _, x, r', hl, hw, hr, _⟩ := vtake_some hk ht
      split
      · simp
      · split
        · simp
        · rw [hr]
          simp only [List.length_drop]
          omega
  · simp only [if_neg he] at h
    exact absurd h he
theorem front_short (s : List Int × Int) (hs : StOk s) (h : (frontS s).2.2 = 0) : (frontS s).2.1.length < s.1.length ∧ StOk (frontS s).2 := by
  have k1 := (numS_ok hs).1
  have k2 := (numS_ok k1).1
  unfold frontS at h ⊢
  by_cases h0 : (numS s).2.2 ≠ 0
  · rw [if_pos h0] at h; exact absurd h h0
  · rw [if_neg h0] at h ⊢
    have h0' : (numS s).2.2 = 0 := by simpa using h0
    have e1 := num_short s hs.1 h0'
    by_cases h5 : (numS s).1 = 5
    · rw [if_pos h5] at h ⊢
      have e2 := num_short _ k1.1 h
      exact ⟨by first | omega | (simp only; omega), k2⟩
    · rw [if_neg h5] at h ⊢
      by_cases h16 : (numS s).1 = 16
      · rw [if_pos h16] at h ⊢
        have e4 := one_e _ h
        have k3 := (numS_ok k2).1
        have e3 := num_short _ k2.1 e4.1
        have e2 := num_short _ k1.1 e3.1
        exact ⟨by first | omega | (simp only; omega), (oneS_ok k3).1⟩
      · rw [if_neg h16] at h
        simp at h
theorem rd_short (f : Bool) (hg hp : Int) (s : List Int × Int) (hs : StOk s) (h : (rdS f hg hp s).2.2 = 0) : s.2 = 0 ∧ (rdS f hg hp s).2.1.length < s.1.length := by
  have k1 := (numS_ok hs).1
  have k2 := (numS_ok k1).1
  unfold rdS at h ⊢
  split
  · rename_i hf
    rw [if_pos hf] at h
    have e3 := one_e _ h
    have e2 := num_short _ k1.1 e3.1
    have e1 := num_short _ hs.1 e2.1
    exact ⟨e1.1, by first | omega | (simp only; omega)⟩
  · rename_i hf
    rw [if_neg hf] at h
    have e1 := num_short _ hs.1 h
    exact ⟨e1.1, by first | omega | (simp only; omega)⟩
theorem textS_ok {s : List Int × Int} (h : StOk s) : BytesOk (textS s).1 ∧ BytesOk (textS s).2.1 := by
  unfold textS
  refine ⟨(vtext_ok h.1 _).1, ?_⟩
  split
  · exact (vtext_ok h.1 _).2
  · exact h.1
theorem obj_short (f : Bool) (hg hp : Int) (sm : Bool) (lg lo : Int) (s : List Int × Int) (hs : StOk s) (h : (objS f hg hp sm lg lo s).2.2.2 = 0) : (objS f hg hp sm lg lo s).2.2.1.length < s.1.length ∧ StOk (objS f hg hp sm lg lo s).2.2 := by
  have k := rdS_ok (f := f) (hg := hg) (hp := hp) hs
  have hs2 := hs.2
  unfold objS at h ⊢
  by_cases h0 : (rdS f hg hp s).2.2 ≠ 0
  · rw [if_pos h0] at h; exact absurd h h0
  · rw [if_neg h0] at h ⊢
    have e1 := rd_short f hg hp s hs (by simpa using h0)
    by_cases h1 : (sm && !lessP lg lo (rdS f hg hp s).1.1 (rdS f hg hp s).1.2.1) = true
    · rw [if_pos h1] at h; simp at h
    · rw [if_neg h1] at h ⊢
      have e2 := text_e _ k.1 h
      exact ⟨by first | omega | (simp only; omega), (textS_ok k).2, by first | omega | (simp only; omega)⟩
theorem obj_data (f : Bool) (hg hp : Int) (sm : Bool) (lg lo : Int) (s : List Int × Int) (hs : StOk s) : BytesOk (objS f hg hp sm lg lo s).2.1 := by
  have k := rdS_ok (f := f) (hg := hg) (hp := hp) hs
  unfold objS
  split
  · exact fun x hx => by simp at hx
  · split
    · exact fun x hx => by simp at hx
    · exact (textS_ok k).1
def RS.ok (s : RS) : Prop := StOk (s.p, s.e)
theorem step_ok {s : RS} (hc : s.cont = true) (hs : StOk (s.p, 0)) : StOk ((stepR s).p, 0) ∧ ((stepR s).e = 0 → (stepR s).p.length < s.p.length) := by
  unfold stepR
  split
  · unfold stepF
    simp only
    split
    · rename_i h
      have := front_short (s.p, 0) hs h
      exact ⟨this.2, fun _ => this.1⟩
    · rename_i h
      exact ⟨hs, fun e => absurd e h⟩
  · unfold stepO
    split
    · rename_i h
      have := obj_short _ _ _ _ _ _ (s.p, 0) hs h
      exact ⟨this.2, fun _ => this.1⟩
    · rename_i h
      exact ⟨hs, fun e => absurd e h⟩
/-! Objects in a row. -/
abbrev Obv := (Int × Int × Int) × List Int × Value
def obc (x : Obv) : List Value := [.int .u64 x.1.1, .int .u64 x.1.2.1, .int .u8 x.1.2.2, .bool false, x.2.2]
def obcells (L : List Obv) : List Value := L.flatMap obc
def obOut (L : List Obv) : List ((Int × Int × Int) × List Int) := L.map fun x => (x.1, x.2.1)
theorem obcells_len (L : List Obv) : (obcells L).length = L.length * 5 := by
  induction L with
  | nil => rfl
  | cons p r ih => simp only [obcells, List.flatMap_cons, List.length_append, List.length_cons] at ih ⊢; rw [ih]; simp [obc]; omega
def ObsOk (w : World) (L : List Obv) : Prop := ∀ x ∈ L, RdT w x.2.2 x.2.1
/-- Bytes stay where blocks that are none of bytes turn. -/
theorem rdt_keep2 {w w' : World} {a b : Nat} {ta tb : TypeId} {ca cb : Array Value} {V : Value} {l : List Int} (h : RdT w V l) (ha : Blk w a ta ca) (hb : Blk w b tb cb) (hta : ta ≠ 5) (htb : tb ≠ 5) (hk : Keep2 a b w w') : RdT w' V l := by
  have hne : ∀ bb off n c, V = .slice (some ⟨bb, off, none⟩) n c → bb ≠ a ∧ bb ≠ b := by
    intro bb off n c e
    obtain ⟨cs, fz, h1⟩ := h.2 bb off n c e
    constructor
    · rintro rfl
      unfold Blk at ha
      rw [h1] at ha
      simp only [Option.some.injEq, Obj.cells.injEq] at ha
      exact hta ha.2.1.symm
    · rintro rfl
      unfold Blk at hb
      rw [h1] at hb
      simp only [Option.some.injEq, Obj.cells.injEq] at hb
      exact htb hb.2.1.symm
  obtain ⟨⟨A, cap, rfl, h1, h2, h3, h4⟩, hT⟩ := h
  refine ⟨⟨A, cap, rfl, h1, h2, h3, fun k hk' => ?_⟩, fun bb off n c e => ?_⟩
  · obtain ⟨bb, off, rfl, hl, hc⟩ := h4 k hk'
    have hn := hne bb off _ _ rfl
    refine ⟨bb, off, rfl, Nat.lt_of_lt_of_le hl hk.size, fun j hj => ?_⟩
    have := hk.block bb hl hn.1 hn.2
    rw [← hc j hj]
    simp only [World.cell?, this]
  · obtain ⟨cs', fz, h5⟩ := hT bb off n c e
    have hn := hne bb off n c e
    exact ⟨cs', fz, (hk.block bb (Array.getElem?_eq_some_iff.1 h5).1 hn.1 hn.2).trans h5⟩
theorem own_keep2 {w w' : World} {a b : Nat} {base : Nat} {e : TypeId} {size n : Nat} {v : Value} {xs : List Value} (h : w.ownsRow base e size v n xs) (hk : Keep2 a b w w') (ha : v.ownBlock ≠ some a) (hb : v.ownBlock ≠ some b) : w'.ownsRow base e size v n xs := by
  refine ⟨h.1, ?_⟩
  rcases h.2 with h2 | ⟨g, cap, cur, rfl, hg, hh, r⟩
  · exact .inl h2
  · exact .inr ⟨g, cap, cur, rfl, hg, (hk.block g (Array.getElem?_eq_some_iff.1 hh).1 (fun e => ha (by rw [← e]; rfl)) (fun e => hb (by rw [← e]; rfl))).trans hh, r⟩
theorem keep2_grown {w0 w w' : World} {a b : Nat} (h : w0.grownBy w (some a)) (hk : Keep2 a b w w') (hb : w0.heap.size ≤ b) : w0.grownBy w' (some a) :=
  ⟨hk.os.trans h.os, hk.tape.trans h.tape, hk.output.trans h.output, Nat.le_trans h.size hk.size, fun i hi hne => (hk.block i (Nat.lt_of_lt_of_le hi h.size) (fun e => hne (by rw [e])) (by omega)).trans (h.block i hi hne)⟩

end Go.Proofs.Ythmdbkefbbjfmaa
