/-
  An eye: what it has before it; must, num, one, text, place. No condition.
  A message that is being read. No condition.
-/
import Derived.Test.YtjijmbpgfabgcaaDoorZC
import Derived.Test.YtjijmbpgfabgcaaDoorZD
import Derived.Test.YtjijmbpgfabgcaaDoorZH
import Derived.Test.YtjijmbpgfabgcaaDoorZI
namespace Go.Proofs.YtjijmbpgfabgcaaDoor
open Go.RowKit
set_option linter.unusedVariables false
set_option linter.unusedSimpArgs false

/-- How reading gives up. -/
abbrev UNFIT : List PanicEntry := [{ v := .iface 93 (.agg #[]), recovered := false }]
/-- What lies below B stays, and each block that is no eye's, no message's, no numbers'. -/
def EK (B : Nat) (w w' : World) : Prop := Below B w w' ∧ B ≤ w.heap.size ∧ w.heap.size ≤ w'.heap.size ∧ ∀ g t cs, Blk w g t cs → t ≠ 95 → t ≠ 31 → t ≠ 22 → Blk w' g t cs
theorem EK.refl {B : Nat} {w : World} (h : B ≤ w.heap.size) : EK B w w := ⟨Below.refl _ _, h, Nat.le_refl _, fun _ _ _ h _ _ _ => h⟩
theorem EK.trans {B : Nat} {a b c : World} (h : EK B a b) (k : EK B b c) : EK B a c := ⟨h.1.trans k.1, h.2.1, Nat.le_trans h.2.2.1 k.2.2.1, fun g t cs x n m o => k.2.2.2 g t cs (h.2.2.2 g t cs x n m o) n m o⟩
theorem EK.same {B : Nat} {w w' : World} (h : Below w.heap.size w w') (hB : B ≤ w.heap.size) : EK B w w' := ⟨h.mono hB, hB, h.size, fun g t cs x _ _ _ => x.same h⟩
theorem EK.sz {B : Nat} {a w : World} (h : EK B a w) : B ≤ w.heap.size := Nat.le_trans h.2.1 h.2.2.1
theorem EK.kept {B : Nat} {a w : World} {g : Nat} {t : TypeId} {cs : Array Value} (h : EK B a w) (x : Blk a g t cs) (h1 : t ≠ 95) (h2 : t ≠ 31) (h3 : t ≠ 22) : Blk w g t cs := h.2.2.2 g t cs x h1 h2 h3
theorem ek_set {B : Nat} {a w : World} {g : Nat} {t : TypeId} {u : Array Value} (h : EK B a w) (hb : Blk w g t u) (hB : B ≤ g) (ht : t = 95 ∨ t = 31 ∨ t = 22) (i : Nat) (v : Value) : EK B a (w.setCell ⟨g, i, none⟩ v) :=
  h.trans ⟨(Below.refl _ _).setCell hB _, h.sz, by simp, fun g' t' cs x n1 n2 n3 => x.far (p := ⟨g, i, none⟩) (hb.ne_ x (fun e => by subst e; rcases ht with e | e | e <;> exact absurd e (by assumption))).symm v⟩
theorem ek_grown {B : Nat} {a w w' : World} {v : Value} {n : Nat} {xs : List Value} (h : EK B a w) (ho : w.ownsRow B 22 1 v n xs) (hg : w.grownBy w' v.ownBlock) : EK B a w' :=
  h.trans ⟨below_of_grown hg h.sz (fun b hb => (ho.lt b hb).1), h.sz, hg.size, fun g t cs x _ _ n3 => x.grown hg (fun e => own_blk_ne ho x (Ne.symm n3) e.symm)⟩
/-- Bytes whose blocks stay are read as they were. -/
theorem rdt_blk {w w' : World} {v : Value} {l : List Int} (h : RdT w v l) (hk : ∀ g cs, Blk w g 5 cs → Blk w' g 5 cs) (hs : w.heap.size ≤ w'.heap.size) : RdT w' v l := by
  refine ⟨?_, fun a n c e => ?_⟩
  · rcases h.shape with ⟨cap, rfl, hl⟩ | ⟨b, off, cap, cs, rfl, k1, k2, k3, k4⟩
    · exact h.1.form.elim fun A hA => by
        obtain ⟨cap', e⟩ := hA
        subst hl
        obtain ⟨A2, c2, e2, h1, h2, h3, h4⟩ := h.1
        exact ⟨A2, c2, e2, h1, h2, h3, fun k hk => absurd hk (by simp)⟩
    · obtain ⟨A2, c2, e2, h1, h2, h3, h4⟩ := h.1
      refine ⟨A2, c2, e2, h1, h2, h3, fun k hkk => ?_⟩
      obtain ⟨b', off', e', hl, hc⟩ := h4 k hkk
      simp only [Value.slice.injEq] at e2
      obtain ⟨e3, _, _⟩ := e2
      rw [← e3] at e'
      simp only [Option.some.injEq, Addr.mk.injEq, and_true] at e'
      obtain ⟨rfl, rfl⟩ := e'
      refine ⟨b, off, e3.symm, Nat.lt_of_lt_of_le hl hs, fun j hj => ?_⟩
      rw [(hk b cs k1).cell]
      rw [← hc j hj, k1.cell]
  · obtain ⟨h0, cs, k1, k2⟩ := h.2 a n c e
    exact ⟨h0, cs, hk _ _ k1, k2⟩
theorem RdT.ek {B : Nat} {w w' : World} {v : Value} {l : List Int} (h : RdT w v l) (k : EK B w w') : RdT w' v l := rdt_blk h (fun g cs x => k.2.2.2 g 5 cs x (by decide) (by decide) (by decide)) k.2.2.1
/-- An eye at yb has l before it. -/
def Eye (B : Nat) (w : World) (yb : Nat) (l : List Int) : Prop := B ≤ yb ∧ ∃ v, Blk w yb 95 #[v] ∧ RdT w v l
theorem Eye.same {B yb : Nat} {w w' : World} {l : List Int} (h : Eye B w yb l) (hb : Below w.heap.size w w') : Eye B w' yb l := by
  obtain ⟨h0, v, h1, h2⟩ := h
  exact ⟨h0, v, h1.same hb, h2.below hb⟩
set_option maxHeartbeats 4000000 in
set_option maxRecDepth 100000 in
theorem must_yes (w : World) : Calls Tryd.prog 53 #[.bool true] w fun e w' => e = .returned (.tuple #[]) ∧ w = w' := by
  go_enter Tryd.func53, Tryd.ntmps53
  go_wp2_with fail
  (first | go_end0 | ((try simp only [Exit.inBlock, Exit.then]); refine bodyPost_ret (results_none rfl _ _ _) rfl ?_))
  exact ⟨rfl, rfl⟩
set_option maxHeartbeats 4000000 in
set_option maxRecDepth 100000 in
theorem must_no (w : World) : Calls Tryd.prog 53 #[.bool false] w fun e w' => e = .panicked UNFIT ∧ w = w' := by
  go_enter Tryd.func53, Tryd.ntmps53
  go_wp2_with fail
  exact ⟨rfl, rfl, rfl⟩
set_option maxHeartbeats 4000000 in
set_option maxRecDepth 100000 in
theorem ynum_no (B yb : Nat) (l : List Int) (w : World) (h : Eye B w yb l) (hBs : B ≤ w.heap.size) (hk : BytesOk l) (ht : vtake l = none) :
    Calls Tryd.prog 54 #[.pointer (some ⟨yb, 0, none⟩)] w fun e w' => e = .panicked UNFIT ∧ EK B w w' ∧ ∀ g t cs, Blk w g t cs → g ≠ yb → Blk w' g t cs := by
  obtain ⟨hB, v, hO, hr⟩ := h
  have hrd := hr.1
  have c0 : w.cell? ⟨yb, 0, none⟩ = some v := hO.cell 0
  go_enter Tryd.func54, Tryd.ntmps54
  go_wp2_with fail
  (with_reducible refine (take_none v l w hrd hk ht).mono ?_)
  rintro e w1 ⟨rfl, hb1⟩
  go_wp2_with fail
  (with_reducible refine (must_no w1).mono ?_)
  rintro e w2 ⟨rfl, rfl⟩
  go_wp2_with fail
  exact ⟨rfl, rfl, EK.same hb1 hBs, fun g t cs x _ => x.same hb1⟩
set_option maxHeartbeats 4000000 in
set_option maxRecDepth 100000 in
theorem ynum_yes (B yb : Nat) (l rest : List Int) (n : Int) (w : World) (h : Eye B w yb l) (hBs : B ≤ w.heap.size) (hk : BytesOk l) (hl : l.length ≤ 1000000) (ht : vtake l = some (n, rest)) :
    Calls Tryd.prog 54 #[.pointer (some ⟨yb, 0, none⟩)] w fun e w' => e = .returned (.int .u64 n) ∧ Eye B w' yb rest ∧ EK B w w' ∧ ∀ g t cs, Blk w g t cs → g ≠ yb → Blk w' g t cs := by
  obtain ⟨hB, v, hO, hr⟩ := h
  have hrd := hr.1
  have hl2 : l.length ≤ 1099511627776 := by omega
  have c0 : w.cell? ⟨yb, 0, none⟩ = some v := hO.cell 0
  go_enter Tryd.func54, Tryd.ntmps54
  go_wp2_with fail
  (with_reducible refine (take_some v l n rest w hrd hk hl2 ht).mono ?_)
  rintro e w1 ⟨v1, rfl, ho1, hb1⟩
  have hO1 := hO.same hb1
  have hr1 := rdt_of_own ho1
  obtain ⟨A1, cap1, rfl⟩ := hr1.form
  have d0 : w1.cell? ⟨yb, 0, none⟩ = some v := hO1.cell 0
  have f0 := hO1.frozen 0
  go_wp2_with fail
  (with_reducible refine (must_yes w1).mono ?_)
  rintro e w2 ⟨rfl, rfl⟩
  go_wp2_with fail
  go_ret
  refine ⟨rfl, ⟨hB, _, by simpa using hO1.set_ 0 _, rdt_set hr1 hO1 (by decide) 0 _⟩, ek_set (EK.same hb1 hBs) hO1 hB (.inl rfl) 0 _, fun g t cs x hne => ?_⟩
  exact (x.same hb1).far (p := ⟨yb, 0, none⟩) hne _
set_option maxHeartbeats 4000000 in
set_option maxRecDepth 100000 in
theorem yone_no (B yb : Nat) (w : World) (h : Eye B w yb []) (hBs : B ≤ w.heap.size) :
    Calls Tryd.prog 56 #[.pointer (some ⟨yb, 0, none⟩)] w fun e w' => e = .panicked UNFIT ∧ EK B w w' ∧ ∀ g t cs, Blk w g t cs → g ≠ yb → Blk w' g t cs := by
  obtain ⟨hB, v, hO, hr⟩ := h
  obtain ⟨A, cap, rfl⟩ := hr.form
  have c0 : w.cell? ⟨yb, 0, none⟩ = some (.slice A 0 cap) := hO.cell 0
  go_enter Tryd.func56, Tryd.ntmps56
  go_wp2_with fail
  (with_reducible refine (must_no w).mono ?_)
  rintro e w2 ⟨rfl, rfl⟩
  go_wp2_with fail
  exact ⟨rfl, rfl, EK.refl hBs, fun g t cs x _ => x⟩
set_option maxHeartbeats 4000000 in
set_option maxRecDepth 100000 in
theorem yone_yes (B yb : Nat) (x : Int) (l : List Int) (w : World) (h : Eye B w yb (x :: l)) (hBs : B ≤ w.heap.size) (hl : l.length ≤ 1000000) :
    Calls Tryd.prog 56 #[.pointer (some ⟨yb, 0, none⟩)] w fun e w' => e = .returned (.int .u8 x) ∧ Eye B w' yb l ∧ EK B w w' ∧ ∀ g t cs, Blk w g t cs → g ≠ yb → Blk w' g t cs := by
  obtain ⟨hB, v, hO, hr⟩ := h
  rcases hr.shape with ⟨cap, rfl, hl⟩ | ⟨b, off, cap, cs, rfl, k1, k2, k3, k4⟩
  · simp at hl
  rw [List.length_cons] at k3
  rcases Nat.eq_zero_or_pos (cap - 1) with hz | hz
  all_goals
    have c0 : w.cell? ⟨yb, 0, none⟩ = some (.slice (some ⟨b, off, none⟩) (l.length + 1) cap) := hO.cell 0
    have f0 := hO.frozen 0
    obtain ⟨b', off', e', _, c1⟩ := hr.1.at_ 0 (by simp)
    simp only [Option.some.injEq, Addr.mk.injEq, and_true] at e'
    obtain ⟨rfl, rfl⟩ := e'
    simp only [Nat.add_zero, List.getD_cons_zero] at c1
    have hpos : ¬ ((l.length : Int) + 1 ≤ 0) := by omega
    go_enter Tryd.func56, Tryd.ntmps56
    go_wp2_with fail
    (with_reducible refine (must_yes w).mono ?_)
    rintro e w2 ⟨rfl, rfl⟩
    go_wp2_with fail
    go_ret
  · obtain rfl : l = [] := List.eq_nil_of_length_eq_zero (by omega)
    refine ⟨rfl, ⟨hB, _, by simpa using hO.set_ 0 _, rdt_set hr.emp hO (by decide) 0 _⟩, ek_set (EK.refl hBs) hO hB (.inl rfl) 0 _, fun g t cs x hne => x.far (p := ⟨yb, 0, none⟩) hne _⟩
  · refine ⟨rfl, ⟨hB, _, by simpa using hO.set_ 0 _, rdt_set (by simpa using hr.suf (m := 1) (by simp)) hO (by decide) 0 _⟩, ek_set (EK.refl hBs) hO hB (.inl rfl) 0 _, fun g t cs x hne => x.far (p := ⟨yb, 0, none⟩) hne _⟩
set_option maxHeartbeats 4000000 in
set_option maxRecDepth 100000 in
theorem ytext_no (B yb : Nat) (l : List Int) (w : World) (h : Eye B w yb l) (hBs : B ≤ w.heap.size) (hk : BytesOk l) (hl : l.length ≤ 1000000) (ht : (vtext l 65536).2.2 ≠ 0) :
    Calls Tryd.prog 55 #[.pointer (some ⟨yb, 0, none⟩)] w fun e w' => e = .panicked UNFIT ∧ EK B w w' ∧ ∀ g t cs, Blk w g t cs → g ≠ yb → Blk w' g t cs := by
  obtain ⟨hB, v, hO, hr⟩ := h
  have hrd := hr.1
  have hl2 : l.length ≤ 1099511627776 := by omega
  have hm2 : (65536 : Int) ≤ 9223372036854775807 := by decide
  have c0 : w.cell? ⟨yb, 0, none⟩ = some v := hO.cell 0
  obtain ⟨z, hz⟩ : ∃ z, z = (vtext l 65536).2.2 := ⟨_, rfl⟩
  have hc := text_allT v l 65536 w hrd hk hl2 hm2
  rw [← hz] at ht hc
  clear hz
  go_enter Tryd.func55, Tryd.ntmps55
  go_wp2_with fail
  (with_reducible refine hc.mono ?_)
  rintro e w1 ⟨v1, v2, rfl, _, _, hb1⟩
  have hzf : (z == 0) = false := by simpa using ht
  go_wp2_with fail
  (with_reducible refine (must_no w1).mono ?_)
  rintro e w2 ⟨rfl, rfl⟩
  go_wp2_with fail
  exact ⟨rfl, rfl, EK.same hb1 hBs, fun g t cs x _ => x.same hb1⟩
set_option maxHeartbeats 4000000 in
set_option maxRecDepth 100000 in
theorem ytext_yes (B yb : Nat) (l : List Int) (w : World) (h : Eye B w yb l) (hBs : B ≤ w.heap.size) (hk : BytesOk l) (hl : l.length ≤ 1000000) (ht : (vtext l 65536).2.2 = 0) :
    Calls Tryd.prog 55 #[.pointer (some ⟨yb, 0, none⟩)] w fun e w' => ∃ v, e = .returned v ∧ RdT w' v (vtext l 65536).1 ∧ Eye B w' yb (vtext l 65536).2.1 ∧ EK B w w' ∧ ∀ g t cs, Blk w g t cs → g ≠ yb → Blk w' g t cs := by
  obtain ⟨hB, v, hO, hr⟩ := h
  have hrd := hr.1
  have hl2 : l.length ≤ 1099511627776 := by omega
  have hm2 : (65536 : Int) ≤ 9223372036854775807 := by decide
  have c0 : w.cell? ⟨yb, 0, none⟩ = some v := hO.cell 0
  have hc := text_allT v l 65536 w hrd hk hl2 hm2
  rw [ht] at hc
  go_enter Tryd.func55, Tryd.ntmps55
  go_wp2_with fail
  (with_reducible refine hc.mono ?_)
  rintro e w1 ⟨v1, v2, rfl, hr1, hr2, hb1⟩
  obtain ⟨A1, cap1, rfl⟩ := hr1.form
  obtain ⟨A2, cap2, rfl⟩ := hr2.form
  have hO1 := hO.same hb1
  have d0 : w1.cell? ⟨yb, 0, none⟩ = some v := hO1.cell 0
  have f0 := hO1.frozen 0
  go_wp2_with fail
  (with_reducible refine (must_yes w1).mono ?_)
  rintro e w2 ⟨rfl, rfl⟩
  go_wp2_with fail
  go_ret
  refine ⟨_, rfl, rdt_set hr1 hO1 (by decide) 0 _, ⟨hB, _, by simpa using hO1.set_ 0 _, rdt_set hr2 hO1 (by decide) 0 _⟩, ek_set (EK.same hb1 hBs) hO1 hB (.inl rfl) 0 _, fun g t cs x hne => ?_⟩
  exact (x.same hb1).far (p := ⟨yb, 0, none⟩) hne _
set_option maxHeartbeats 4000000 in
set_option maxRecDepth 100000 in
theorem yplace_no1 (B yb : Nat) (l : List Int) (w : World) (h : Eye B w yb l) (hBs : B ≤ w.heap.size) (hk : BytesOk l) (ht : vtake l = none) :
    Calls Tryd.prog 57 #[.pointer (some ⟨yb, 0, none⟩)] w fun e w' => e = .panicked UNFIT ∧ EK B w w' ∧ ∀ g t cs, Blk w g t cs → g ≠ yb → Blk w' g t cs := by
  have hb0 : Below w.heap.size w (w.alloc (.cells #[.int .u64 0, .int .u64 0] 25)) := (Below.refl _ _).alloc (Nat.le_refl _) _
  go_enter Tryd.func57, Tryd.ntmps57
  go_wp2_with fail
  (with_reducible refine (ynum_no B yb l _ (h.same hb0) (Nat.le_trans hBs hb0.size) hk ht).mono ?_)
  rintro e w1 ⟨rfl, hk1, hs1⟩
  go_wp2_with fail
  exact ⟨rfl, rfl, (EK.same hb0 hBs).trans hk1, fun g t cs x hg => hs1 _ _ _ (x.same hb0) hg⟩
set_option maxHeartbeats 4000000 in
set_option maxRecDepth 100000 in
theorem yplace_no2 (B yb : Nat) (l r : List Int) (n : Int) (w : World) (h : Eye B w yb l) (hBs : B ≤ w.heap.size) (hk : BytesOk l) (hl : l.length ≤ 1000000) (ht : vtake l = some (n, r)) (hkr : BytesOk r) (ht2 : vtake r = none) :
    Calls Tryd.prog 57 #[.pointer (some ⟨yb, 0, none⟩)] w fun e w' => e = .panicked UNFIT ∧ EK B w w' ∧ ∀ g t cs, Blk w g t cs → g ≠ yb → Blk w' g t cs := by
  have hb0 : Below w.heap.size w (w.alloc (.cells #[.int .u64 0, .int .u64 0] 25)) := (Below.refl _ _).alloc (Nat.le_refl _) _
  go_enter Tryd.func57, Tryd.ntmps57
  go_wp2_with fail
  (with_reducible refine (ynum_yes B yb l r n _ (h.same hb0) (Nat.le_trans hBs hb0.size) hk hl ht).mono ?_)
  rintro e w1 ⟨rfl, hy1, hk1, hs1⟩
  go_wp2_with fail
  (with_reducible refine (ynum_no B yb r _ hy1 hk1.sz hkr ht2).mono ?_)
  rintro e w2 ⟨rfl, hk2, hs2⟩
  go_wp2_with fail
  exact ⟨rfl, rfl, ((EK.same hb0 hBs).trans hk1).trans hk2, fun g t cs x hg => hs2 _ _ _ (hs1 _ _ _ (x.same hb0) hg) hg⟩
set_option maxHeartbeats 4000000 in
set_option maxRecDepth 100000 in
theorem yplace_yes (B yb : Nat) (l r r2 : List Int) (n n2 : Int) (w : World) (h : Eye B w yb l) (hBs : B ≤ w.heap.size) (hk : BytesOk l) (hl : l.length ≤ 1000000) (ht : vtake l = some (n, r)) (hkr : BytesOk r) (hlr : r.length ≤ 1000000) (ht2 : vtake r = some (n2, r2)) :
    Calls Tryd.prog 57 #[.pointer (some ⟨yb, 0, none⟩)] w fun e w' => e = .returned (.agg #[.int .u64 n, .int .u64 n2]) ∧ Eye B w' yb r2 ∧ EK B w w' ∧ ∀ g t cs, Blk w g t cs → g ≠ yb → Blk w' g t cs := by
  obtain ⟨hyB, y0, hY0, hyr⟩ := h
  have h : Eye B w yb l := ⟨hyB, y0, hY0, hyr⟩
  have hb0 : Below w.heap.size w (w.alloc (.cells #[.int .u64 0, .int .u64 0] 25)) := (Below.refl _ _).alloc (Nat.le_refl _) _
  have hP := Blk.new w 25 #[.int .u64 0, .int .u64 0]
  have hne : w.heap.size ≠ yb := fun e => by have := hY0.lt; omega
  go_enter Tryd.func57, Tryd.ntmps57
  go_wp2_with fail
  (with_reducible refine (ynum_yes B yb l r n _ (h.same hb0) (Nat.le_trans hBs hb0.size) hk hl ht).mono ?_)
  rintro e w1 ⟨rfl, hy1, hk1, hs1⟩
  go_wp2_with fail
  (with_reducible refine (ynum_yes B yb r r2 n2 _ hy1 hk1.sz hkr hlr ht2).mono ?_)
  rintro e w2 ⟨rfl, hy2, hk2, hs2⟩
  have hP2 := hs2 _ _ _ (hs1 _ _ _ hP hne) hne
  have p0 : w2.cell? ⟨w.heap.size, 0, none⟩ = some (.int .u64 0) := hP2.cell 0
  have p1 : w2.cell? ⟨w.heap.size, 1, none⟩ = some (.int .u64 0) := hP2.cell 1
  have f0 := hP2.frozen 0
  have f1 := hP2.frozen 1
  go_wp2_with fail
  have hPf : Blk ((w2.setCell ⟨w.heap.size, 0, none⟩ (.int .u64 n)).setCell ⟨w.heap.size, 1, none⟩ (.int .u64 n2)) w.heap.size 25 #[.int .u64 n, .int .u64 n2] := by simpa using (hP2.set_ 0 (.int .u64 n)).set_ 1 (.int .u64 n2)
  have y0 : World.cell? _ ⟨w.heap.size, 0, none⟩ = some (.int .u64 n) := hPf.cell 0
  have y1 : World.cell? _ ⟨w.heap.size, 1, none⟩ = some (.int .u64 n2) := hPf.cell 1
  obtain ⟨hyB2, v2, hY2, hr2⟩ := hy2
  have hW := ((EK.same hb0 hBs).trans hk1).trans hk2
  have hK : EK B w ((w2.setCell ⟨w.heap.size, 0, none⟩ (.int .u64 n)).setCell ⟨w.heap.size, 1, none⟩ (.int .u64 n2)) :=
    ⟨(hW.1.setCell hBs _).setCell hBs _, hBs, by simpa using hW.2.2.1, fun g t cs x n1 n2 n3 => ((hW.2.2.2 g t cs x n1 n2 n3).far (p := ⟨w.heap.size, 0, none⟩) (Nat.ne_of_lt x.lt) _).far (p := ⟨w.heap.size, 1, none⟩) (Nat.ne_of_lt x.lt) _⟩
  refine bodyPost_ret (v := .agg #[.int .u64 n, .int .u64 n2]) (by simp [results, Tryd.results57, go_sem, y0, y1]) rfl ?_
  refine ⟨rfl, ⟨hyB2, v2, (hY2.far (p := ⟨w.heap.size, 0, none⟩) (Ne.symm hne) _).far (p := ⟨w.heap.size, 1, none⟩) (Ne.symm hne) _, rdt_set (rdt_set hr2 hP2 (by decide) 0 _) (hP2.set_ 0 _) (by decide) 1 _⟩, hK, fun g t cs x hg => ?_⟩
  exact ((hs2 _ _ _ (hs1 _ _ _ (x.same hb0) hg) hg).far (p := ⟨w.heap.size, 0, none⟩) (Nat.ne_of_lt x.lt) _).far (p := ⟨w.heap.size, 1, none⟩) (Nat.ne_of_lt x.lt) _

end Go.Proofs.YtjijmbpgfabgcaaDoor
namespace Go.Proofs.YtjijmbpgfabgcaaDoor
open Go.RowKit
set_option linter.unusedVariables false
set_option linter.unusedSimpArgs false

theorem own_blks {w w' : World} {B e s n : Nat} {v : Value} {xs : List Value} (h : w.ownsRow B e s v n xs) (hk : ∀ g cs, Blk w g e cs → Blk w' g e cs) : w'.ownsRow B e s v n xs := by
  refine ⟨h.1, ?_⟩
  rcases h.2 with h2 | ⟨g, cap, cur, h1, h2, h3, h4⟩
  · exact .inl h2
  · exact .inr ⟨g, cap, cur, h1, h2, hk g cur h3, h4⟩
/-- A message is being read into the block mb. -/
def MB (B : Nat) (w : World) (mb : Nat) (x : M) : Prop := B ≤ mb ∧ ∃ nv rv vv, Blk w mb 31 (x.cells nv rv vv) ∧ RdT w nv x.nm ∧ RdT w rv x.rs ∧ w.ownsRow B 22 1 vv x.vs.length (x.vs.map (Value.int .u64))
theorem MB.frozen {B : Nat} {w : World} {mb : Nat} {x : M} (h : MB B w mb x) (i : Nat) : w.frozen? ⟨mb, i, none⟩ = false := by
  obtain ⟨_, nv, rv, vv, hO, _⟩ := h
  exact hO.frozen i
theorem MB.old {B : Nat} {w : World} {mb : Nat} {x : M} (h : MB B w mb x) (i : Nat) (hi : i < 16) : ∃ v, w.cell? ⟨mb, i, none⟩ = some v := by
  obtain ⟨_, nv, rv, vv, hO, _⟩ := h
  exact ⟨_, (hO.cell i).trans (Array.getElem?_eq_getElem (by simpa using hi))⟩
section
variable {B : Nat} {w w' a : World} {mb yb : Nat} {x x' : M} {l : List Int}
theorem mb_ne (h : MB B w mb x) (hY : Eye B w yb l) : mb ≠ yb := by
  obtain ⟨_, nv, rv, vv, hO, _⟩ := h
  obtain ⟨_, v, hQ, _⟩ := hY
  exact hO.ne_ hQ (by decide)
theorem mb_keep (h : MB B w mb x) (hY : Eye B w yb l) (hk : EK B w w') (hs : ∀ g t cs, Blk w g t cs → g ≠ yb → Blk w' g t cs) : MB B w' mb x := by
  have hne := mb_ne h hY
  obtain ⟨hB, nv, rv, vv, hO, h1, h2, h3⟩ := h
  obtain ⟨_, v, hQ, _⟩ := hY
  exact ⟨hB, nv, rv, vv, hs _ _ _ hO hne, h1.ek hk, h2.ek hk, own_blks h3 (fun g cs k => hs _ _ _ k (k.ne_ hQ (by decide)))⟩
theorem mb_set (h : MB B w mb x) (i : Nat) (v : Value) (hc : ∀ nv rv vv, (x.cells nv rv vv).setIfInBounds i v = x'.cells nv rv vv) (h1 : x'.nm = x.nm) (h2 : x'.rs = x.rs) (h3 : x'.vs = x.vs) : MB B (w.setCell ⟨mb, i, none⟩ v) mb x' := by
  obtain ⟨hB, nv, rv, vv, hO, k1, k2, k3⟩ := h
  refine ⟨hB, nv, rv, vv, ?_, ?_, ?_, ?_⟩
  · rw [← hc]; exact hO.set_ i v
  · rw [h1]; exact rdt_set k1 hO (by decide) i v
  · rw [h2]; exact rdt_set k2 hO (by decide) i v
  · rw [h3]; exact own_far k3 (own_blk_ne k3 hO (by decide)) v
theorem mb_setn (h : MB B w mb x) (v : Value) (l' : List Int) (hv : RdT w v l') : MB B (w.setCell ⟨mb, 3, none⟩ v) mb { x with nm := l' } := by
  obtain ⟨hB, nv, rv, vv, hO, k1, k2, k3⟩ := h
  exact ⟨hB, v, rv, vv, hO.set_ 3 v, rdt_set hv hO (by decide) 3 v, rdt_set k2 hO (by decide) 3 v, own_far k3 (own_blk_ne k3 hO (by decide)) v⟩
theorem mb_setr (h : MB B w mb x) (v : Value) (l' : List Int) (hv : RdT w v l') : MB B (w.setCell ⟨mb, 12, none⟩ v) mb { x with rs := l' } := by
  obtain ⟨hB, nv, rv, vv, hO, k1, k2, k3⟩ := h
  exact ⟨hB, nv, v, vv, hO.set_ 12 v, rdt_set k1 hO (by decide) 12 v, rdt_set hv hO (by decide) 12 v, own_far k3 (own_blk_ne k3 hO (by decide)) v⟩
theorem eye_set (hY : Eye B w yb l) (h : MB B w mb x) (i : Nat) (v : Value) : Eye B (w.setCell ⟨mb, i, none⟩ v) yb l := by
  have hne := mb_ne h hY
  obtain ⟨hB, nv, rv, vv, hO, k1, k2, k3⟩ := h
  obtain ⟨hb, u, hQ, hr⟩ := hY
  exact ⟨hb, u, hQ.far (p := ⟨mb, i, none⟩) (Ne.symm hne) v, rdt_set hr hO (by decide) i v⟩
theorem ek_mb (hK : EK B a w) (h : MB B w mb x) (i : Nat) (v : Value) : EK B a (w.setCell ⟨mb, i, none⟩ v) := by
  obtain ⟨hB, nv, rv, vv, hO, k1, k2, k3⟩ := h
  exact ek_set hK hO hB (.inr (.inl rfl)) i v
end
/-- How the reading of parts ends. -/
def Out (o : Option (M × List Int)) (B yb mb : Nat) (e : Ending) (w' : World) : Prop := match o with
  | some (y, r) => e = .returned (.tuple #[]) ∧ Eye B w' yb r ∧ MB B w' mb y
  | none => e = .panicked UNFIT ∧ ∃ cs, Blk w' mb 31 cs ∧ cs.size = 16
theorem mb_blk {B : Nat} {w w' : World} {mb yb : Nat} {x : M} {l : List Int} (h : MB B w mb x) (hY : Eye B w yb l) (hs : ∀ g t cs, Blk w g t cs → g ≠ yb → Blk w' g t cs) : ∃ cs, Blk w' mb 31 cs ∧ cs.size = 16 := by
  have hne := mb_ne h hY
  obtain ⟨_, nv, rv, vv, hO, _⟩ := h
  exact ⟨_, hs _ _ _ hO hne, rfl⟩
theorem vtake_rest {l r : List Int} {n : Int} (hk : BytesOk l) (h : vtake l = some (n, r)) : BytesOk r ∧ r.length ≤ l.length ∧ 0 ≤ n ∧ n < 4611686018427387904 := by
  obtain ⟨h0, h1, x, q, e, h2, rfl, _⟩ := vtake_some hk h
  exact ⟨hk.drop _, by rw [List.length_drop]; omega, h0, h1⟩
theorem vtext_rest {l : List Int} (hk : BytesOk l) : BytesOk (vtext l 65536).2.1 ∧ (vtext l 65536).2.1.length ≤ l.length ∧ BytesOk (vtext l 65536).1 ∧ (vtext l 65536).1.length ≤ l.length := by
  refine ⟨(vtext_ok hk _).2, ?_, (vtext_ok hk _).1, ?_⟩
  all_goals
    rcases ht : vtake l with _ | ⟨n, r⟩
    · rw [vtext_none _ ht]; simp
    · rw [vtext_some _ ht]
      have := (vtake_rest hk ht).2.1
      split
      · simp
      · split
        · simp
        · simp; omega
theorem p105_yes {L : List Int} {x : M} {b r : List Int} {v : Int} (h : vtake b = some (v, r)) : parse (105 :: L) x b = parse L { x with id := v } r := by simp [parse, stepL, h]
theorem p105_no {L : List Int} {x : M} {b : List Int} (h : vtake b = none) : parse (105 :: L) x b = none := by simp [parse, stepL, h]
theorem p97_yes {L : List Int} {x : M} {b r : List Int} {v : Int} (h : vtake b = some (v, r)) : parse (97 :: L) x b = parse L { x with al := v } r := by simp [parse, stepL, h]
theorem p97_no {L : List Int} {x : M} {b : List Int} (h : vtake b = none) : parse (97 :: L) x b = none := by simp [parse, stepL, h]
theorem p103_yes {L : List Int} {x : M} {b r : List Int} {v : Int} (h : vtake b = some (v, r)) : parse (103 :: L) x b = parse L { x with eg := v } r := by simp [parse, stepL, h]
theorem p103_no {L : List Int} {x : M} {b : List Int} (h : vtake b = none) : parse (103 :: L) x b = none := by simp [parse, stepL, h]
theorem p99_yes {L : List Int} {x : M} {b r : List Int} {v : Int} (h : vtake b = some (v, r)) : parse (99 :: L) x b = parse L { x with cd := v } r := by simp [parse, stepL, h]
theorem p99_no {L : List Int} {x : M} {b : List Int} (h : vtake b = none) : parse (99 :: L) x b = none := by simp [parse, stepL, h]
theorem p110_yes {L : List Int} {x : M} {b r : List Int} {v : Int} (h : vtake b = some (v, r)) : parse (110 :: L) x b = parse L { x with n := v } r := by simp [parse, stepL, h]
theorem p110_no {L : List Int} {x : M} {b : List Int} (h : vtake b = none) : parse (110 :: L) x b = none := by simp [parse, stepL, h]
theorem p118_yes {L : List Int} {x : M} {b r : List Int} {v : Int} (h : vtake b = some (v, r)) : parse (118 :: L) x b = parse L { x with ve := v } r := by simp [parse, stepL, h]
theorem p118_no {L : List Int} {x : M} {b : List Int} (h : vtake b = none) : parse (118 :: L) x b = none := by simp [parse, stepL, h]
theorem p115_yes {L : List Int} {x : M} {b r r2 : List Int} {v u : Int} (h : vtake b = some (v, r)) (k : vtake r = some (u, r2)) : parse (115 :: L) x b = parse L { x with sg := v, so := u } r2 := by simp [parse, stepL, h, k]
theorem p115_no {L : List Int} {x : M} {b : List Int} (h : vtake b = none) : parse (115 :: L) x b = none := by simp [parse, stepL, h]
theorem p115_no2 {L : List Int} {x : M} {b r : List Int} {v : Int} (h : vtake b = some (v, r)) (k : vtake r = none) : parse (115 :: L) x b = none := by simp [parse, stepL, h, k]
theorem p101_yes {L : List Int} {x : M} {b r r2 : List Int} {v u : Int} (h : vtake b = some (v, r)) (k : vtake r = some (u, r2)) : parse (101 :: L) x b = parse L { x with eg := v, eo := u } r2 := by simp [parse, stepL, h, k]
theorem p101_no {L : List Int} {x : M} {b : List Int} (h : vtake b = none) : parse (101 :: L) x b = none := by simp [parse, stepL, h]
theorem p101_no2 {L : List Int} {x : M} {b r : List Int} {v : Int} (h : vtake b = some (v, r)) (k : vtake r = none) : parse (101 :: L) x b = none := by simp [parse, stepL, h, k]
theorem p116_yes {L : List Int} {x : M} {b : List Int} (h : (vtext b 65536).2.2 = 0) : parse (116 :: L) x b = parse L { x with nm := (vtext b 65536).1 } (vtext b 65536).2.1 := by simp [parse, stepL, h]
theorem p116_no {L : List Int} {x : M} {b : List Int} (h : (vtext b 65536).2.2 ≠ 0) : parse (116 :: L) x b = none := by simp [parse, stepL, h]
theorem p114_yes {L : List Int} {x : M} {b : List Int} (h : (vtext b 65536).2.2 = 0) : parse (114 :: L) x b = parse L { x with rs := (vtext b 65536).1 } (vtext b 65536).2.1 := by simp [parse, stepL, h]
theorem p114_no {L : List Int} {x : M} {b : List Int} (h : (vtext b 65536).2.2 ≠ 0) : parse (114 :: L) x b = none := by simp [parse, stepL, h]
theorem p112_yes {L : List Int} {x : M} {r : List Int} {v : Int} : parse (112 :: L) x (v :: r) = parse L { x with pr := v } r := by simp [parse, stepL]
theorem p112_no {L : List Int} {x : M} : parse (112 :: L) x [] = none := by simp [parse, stepL]
theorem p111_yes {L : List Int} {x : M} {r : List Int} {v : Int} : parse (111 :: L) x (v :: r) = parse L { x with od := v } r := by simp [parse, stepL]
theorem p111_no {L : List Int} {x : M} : parse (111 :: L) x [] = none := by simp [parse, stepL]
theorem p98_no {L : List Int} {x : M} : parse (98 :: L) x [] = none := by simp [parse, stepL]
theorem p98_yes {L : List Int} {x : M} {r : List Int} {v : Int} (h : v ≤ 1) : parse (98 :: L) x (v :: r) = parse L { x with sm := decide (v = 1) } r := by simp [parse, stepL, h]
theorem p98_no2 {L : List Int} {x : M} {r : List Int} {v : Int} (h : ¬ v ≤ 1) : parse (98 :: L) x (v :: r) = none := by simp [parse, stepL, h]
theorem p108_no {L : List Int} {x : M} {b : List Int} (h : vtake b = none) : parse (108 :: L) x b = none := by simp [parse, stepL, h]
theorem p108_no2 {L : List Int} {x : M} {b r : List Int} {v : Int} (h : vtake b = some (v, r)) (k : ¬ v ≤ 8) : parse (108 :: L) x b = none := by simp [parse, stepL, h, k]
theorem p108_no3 {L : List Int} {x : M} {b r : List Int} {v : Int} (h : vtake b = some (v, r)) (k : v ≤ 8) (j : takeN v.toNat x.vs r = none) : parse (108 :: L) x b = none := by simp [parse, stepL, h, k, j]
theorem p108_yes {L : List Int} {x : M} {b r r2 l2 : List Int} {v : Int} (h : vtake b = some (v, r)) (k : v ≤ 8) (j : takeN v.toNat x.vs r = some (l2, r2)) : parse (108 :: L) x b = parse L { x with vs := l2 } r2 := by simp [parse, stepL, h, k, j]
theorem parse_nil (x : M) (b : List Int) : parse [] x b = some (x, b) := rfl
theorem rdt_own22 {B n : Nat} {X w4 : World} {v vv : Value} {l : List Int} {xs : List Value} (h : RdT X v l) (k3 : X.ownsRow B 22 1 vv n xs) (hg : X.grownBy w4 vv.ownBlock) : RdT w4 v l :=
  rdt_blk h (fun g cs x => x.grown hg (fun e => own_blk_ne k3 x (by decide) e.symm)) hg.size
theorem mb_app {B mb n : Nat} {X w4 : World} {x : M} {nv rv vv v4 : Value} {a : List Int} {y : Int} (hmB : B ≤ mb) (hO : Blk X mb 31 (x.cells nv rv vv)) (k1 : RdT X nv x.nm) (k2 : RdT X rv x.rs) (k3 : X.ownsRow B 22 1 vv n (a.map (Value.int .u64))) (hg : X.grownBy w4 vv.ownBlock)
    (hown : w4.ownsRow B 22 1 v4 (n + 1) (a.map (Value.int .u64) ++ [.int .u64 y])) (hn : n = a.length) : MB B (w4.setCell ⟨mb, 15, none⟩ v4) mb { x with vs := a ++ [y] } := by
  subst hn
  have hO4 := hO.grown hg (fun e => own_blk_ne k3 hO (by decide) e.symm)
  refine ⟨hmB, nv, rv, v4, hO4.set_ 15 v4, rdt_set (rdt_own22 k1 k3 hg) hO4 (by decide) 15 v4, rdt_set (rdt_own22 k2 k3 hg) hO4 (by decide) 15 v4, own_far ?_ (own_blk_ne hown hO4 (by decide)) v4⟩
  show w4.ownsRow B 22 1 v4 (a ++ [y]).length ((a ++ [y]).map (Value.int .u64))
  rw [List.length_append, List.map_append]
  exact hown
theorem eye_app {B mb yb n : Nat} {X w4 : World} {vv v4 : Value} {cs : Array Value} {l : List Int} {xs : List Value} (hY : Eye B X yb l) (hO : Blk X mb 31 cs) (k3 : X.ownsRow B 22 1 vv n xs) (hg : X.grownBy w4 vv.ownBlock) : Eye B (w4.setCell ⟨mb, 15, none⟩ v4) yb l := by
  obtain ⟨hB, v, hQ, hr⟩ := hY
  have hO4 := hO.grown hg (fun e => own_blk_ne k3 hO (by decide) e.symm)
  have hQ4 := hQ.grown hg (fun e => own_blk_ne k3 hQ (by decide) e.symm)
  exact ⟨hB, v, hQ4.far (p := ⟨mb, 15, none⟩) (hQ4.ne_ hO4 (by decide)) v4, rdt_set (rdt_own22 hr k3 hg) hO4 (by decide) 15 v4⟩
theorem ek_app {B mb n : Nat} {a X w4 : World} {vv v4 : Value} {cs : Array Value} {xs : List Value} (hK : EK B a X) (hmB : B ≤ mb) (hO : Blk X mb 31 cs) (k3 : X.ownsRow B 22 1 vv n xs) (hg : X.grownBy w4 vv.ownBlock) : EK B a (w4.setCell ⟨mb, 15, none⟩ v4) :=
  ek_set (ek_grown hK k3 hg) (hO.grown hg (fun e => own_blk_ne k3 hO (by decide) e.symm)) hmB (.inr (.inl rfl)) 15 v4
theorem rdv_litU (w : World) (x : Int) : RdV (w.alloc (.cells #[.int .u64 x] 22)) 1 (some ⟨w.heap.size, 0, none⟩) 1 [.int .u64 x] :=
  (mid_of_own (World.ownsRow_lit (size := 1) (e := 22) w #[.int .u64 x] 1 (Nat.le_refl _) (by decide) rfl)).rdv.1
theorem infoU64 : (Tryd.prog.info? 22).map (fun i => (i.zero, i.size, i.bytes)) = some (some (.int .u64 0), 1, 8) := by kernel_rfl

end Go.Proofs.YtjijmbpgfabgcaaDoor
