/-
  The cut again, with the kind of block that its bytes lie in: so they lie apart from a reader.
-/
import Derived.Test.YthmdbkefbbjfmaaIfronb
namespace Go.Proofs.Ythmdbkefbbjfmaa
open Go.RowKit
set_option linter.unusedVariables false
set_option linter.unusedSimpArgs false


/-- What a slice points into is a block of bytes. -/
def Typ (w : World) (v : Value) : Prop := ∀ b off n c, v = .slice (some ⟨b, off, none⟩) n c → ∃ cs fz, w.heap[b]? = some (.cells cs 5 fz)
def RdT (w : World) (v : Value) (l : List Int) : Prop := Rd w .u8 v l ∧ Typ w v
theorem typ_nil (w : World) (n c : Nat) : Typ w (.slice none n c) := fun b off n c e => by simp at e
theorem RdT.nil (w : World) : RdT w (.slice none 0 0) [] := ⟨Rd.nil _ _, typ_nil _ _ _⟩
theorem RdT.form {w : World} {v : Value} {l : List Int} (h : RdT w v l) : ∃ A cap, v = .slice A l.length cap := h.1.form
theorem Typ.grown {w w' : World} {v : Value} {row : Option Nat} (h : Typ w v) (hb : w.grownBy w' row) (hr : ∀ g t cs, row = some g → Blk w g t cs → t ≠ 5) (hr2 : ∀ g, row = some g → ∃ t cs, Blk w g t cs) : Typ w' v := fun b off n c e => by
  obtain ⟨cs, fz, h1⟩ := h b off n c e
  refine ⟨cs, fz, (hb.block b (Array.getElem?_eq_some_iff.1 h1).1 ?_).trans h1⟩
  rintro rfl
  obtain ⟨t, cs', h2⟩ := hr2 b rfl
  have h3 := hr b t cs' rfl h2
  unfold Blk at h2
  rw [h1] at h2
  simp only [Option.some.injEq, Obj.cells.injEq] at h2
  exact h3 h2.2.1.symm
theorem Typ.below {w w' : World} {v : Value} (h : Typ w v) (hb : Below w.heap.size w w') : Typ w' v := fun b off n c e => by
  obtain ⟨cs, fz, h1⟩ := h b off n c e
  exact ⟨cs, fz, (hb.block b (Array.getElem?_eq_some_iff.1 h1).1).trans h1⟩
theorem RdT.below {w w' : World} {v : Value} {l : List Int} (h : RdT w v l) (hb : Below w.heap.size w w') : RdT w' v l := ⟨h.1.below hb, h.2.below hb⟩
theorem RdT.suf {w : World} {b off n cap : Nat} {l : List Int} (h : RdT w (.slice (some ⟨b, off, none⟩) n cap) l) {m : Nat} (hm : m ≤ l.length) : RdT w (.slice (some ⟨b, off + m, none⟩) (l.length - m) (cap - m)) (l.drop m) :=
  ⟨h.1.suf hm, fun b' off' n' c' e => by
    simp only [Value.slice.injEq, Option.some.injEq, Addr.mk.injEq] at e
    obtain ⟨cs, fz, h1⟩ := h.2 b off n cap rfl
    exact ⟨cs, fz, by rw [← e.1.1]; exact h1⟩⟩
theorem rdt_of_own {w : World} {base n : Nat} {v : Value} {l : List Int} (h : w.ownsRow base 5 1 v n (l.map (Value.int .u8))) : RdT w v l := by
  refine ⟨rd_of_own h, fun b off n' c e => ?_⟩
  rcases h.2 with ⟨rfl, h0⟩ | ⟨g, cap, cur, rfl, hb, hg, _⟩
  · simp at e
  · simp only [Value.slice.injEq, Option.some.injEq, Addr.mk.injEq] at e
    exact ⟨cur, _, by rw [← e.1.1]; exact hg⟩
theorem rdt_set {w : World} {g : Nat} {t : TypeId} {cs : Array Value} {V : Value} {l : List Int} (h : RdT w V l) (hg : Blk w g t cs) (hn : t ≠ 5) (i : Nat) (u : Value) : RdT (w.setCell ⟨g, i, none⟩ u) V l := by
  have hne : ∀ b off n c, V = .slice (some ⟨b, off, none⟩) n c → b ≠ g := by
    rintro b off n c e rfl
    obtain ⟨cs', fz, h1⟩ := h.2 b off n c e
    unfold Blk at hg
    rw [h1] at hg
    simp only [Option.some.injEq, Obj.cells.injEq] at hg
    exact hn hg.2.1.symm
  obtain ⟨⟨A, cap, rfl, h1, h2, h3, h4⟩, hT⟩ := h
  refine ⟨⟨A, cap, rfl, h1, h2, h3, fun k hk => ?_⟩, fun b off n c e => ?_⟩
  · obtain ⟨b, off, rfl, hb, hc⟩ := h4 k hk
    refine ⟨b, off, rfl, by simpa [World.setCell] using hb, fun j hj => ?_⟩
    have := Below.heap_setCell w ⟨g, i, none⟩ u b (by simpa using hne b off _ _ rfl)
    rw [← hc j hj]
    simp only [World.cell?, this]
  · obtain ⟨cs', fz, h5⟩ := hT b off n c e
    exact ⟨cs', fz, (Below.heap_setCell w ⟨g, i, none⟩ u b (by simpa using hne b off n c e)).trans h5⟩
theorem rdt_grown {w w' : World} {g : Nat} {t : TypeId} {cs : Array Value} {V : Value} {l : List Int} (h : RdT w V l) (hg : Blk w g t cs) (hn : t ≠ 5) (hb : w.grownBy w' (some g)) : RdT w' V l := by
  have hne : ∀ b off n c, V = .slice (some ⟨b, off, none⟩) n c → b ≠ g := by
    rintro b off n c e rfl
    obtain ⟨cs', fz, h1⟩ := h.2 b off n c e
    unfold Blk at hg
    rw [h1] at hg
    simp only [Option.some.injEq, Obj.cells.injEq] at hg
    exact hn hg.2.1.symm
  obtain ⟨⟨A, cap, rfl, h1, h2, h3, h4⟩, hT⟩ := h
  refine ⟨⟨A, cap, rfl, h1, h2, h3, fun k hk => ?_⟩, fun b off n c e => ?_⟩
  · obtain ⟨b, off, rfl, hl, hc⟩ := h4 k hk
    refine ⟨b, off, rfl, Nat.lt_of_lt_of_le hl hb.size, fun j hj => ?_⟩
    have := hb.block b hl (by simpa using hne b off _ _ rfl)
    rw [← hc j hj]
    simp only [World.cell?, this]
  · obtain ⟨cs', fz, h5⟩ := hT b off n c e
    exact ⟨cs', fz, (hb.block b (Array.getElem?_eq_some_iff.1 h5).1 (by simpa using hne b off n c e)).trans h5⟩
def CutT (w : World) (g : Nat) (l : List Int) (e : Int) : Prop := ∃ V, Blk w g 74 #[V, .int .i64 e] ∧ RdT w V l
theorem CutT.blk_ne {w : World} {g k : Nat} {l : List Int} {e : Int} {t : TypeId} {cs : Array Value} (h : CutT w g l e) (hb : Blk w k t cs) (hne : t ≠ 74) : k ≠ g := by
  obtain ⟨V, h1, _⟩ := h
  exact Blk.ne_ hb h1 hne
theorem take_allT (v : Value) (l : List Int) (w : World) (h : RdT w v l) (hk : BytesOk l) (hl : l.length ≤ 1099511627776) :
    Calls Try.prog 42 #[v] w fun e w' => ∃ v', e = .returned (.tuple #[.int .u64 (takeR l).1, v', .int .i64 (takeR l).2.2]) ∧ RdT w' v' (takeR l).2.1 ∧ Below w.heap.size w w' := by
  unfold takeR
  rcases ht : vtake l with _ | ⟨n, r⟩
  · exact (take_none v l w h.1 hk ht).mono fun e w' ⟨he, hB⟩ => ⟨_, he, RdT.nil _, hB⟩
  · exact (take_some v l n r w h.1 hk hl ht).mono fun e w' ⟨v', he, ho, hB⟩ => ⟨v', he, rdt_of_own ho, hB⟩
set_option maxHeartbeats 1000000 in
set_option maxRecDepth 100000 in
theorem cnum_okT (g : Nat) (l : List Int) (w : World) (h : CutT w g l 0) (hk : BytesOk l) (hl : l.length ≤ 1000000) :
    Calls Try.prog 32 #[.pointer (some ⟨g, 0, none⟩)] w fun e w' => e = .returned (.int .u64 (takeR l).1) ∧ CutT w' g (takeR l).2.1 (takeR l).2.2 ∧ w.grownBy w' (some g) := by
  obtain ⟨V, hb, hr⟩ := h
  obtain ⟨A, cap, rfl⟩ := hr.form
  have c0 : w.cell? ⟨g, 0, none⟩ = some (.slice A l.length cap) := hb.cell 0
  have HR := Lib.hid hr
  clear hr
  go_enter Try.func32, Try.ntmps32
  go_wp2_with fail
  refine (take_allT _ l _ HR.out hk (by omega)).mono ?_
  rintro e w1 ⟨v1, rfl, r1, hb1⟩
  have hb' := hb.same hb1
  obtain ⟨A1, k1, rfl⟩ := r1.form
  obtain ⟨n, hn⟩ : ∃ n, n = (takeR l).1 := ⟨_, rfl⟩
  obtain ⟨L, hL⟩ : ∃ L, L = (takeR l).2.1 := ⟨_, rfl⟩
  obtain ⟨er, he⟩ : ∃ er, er = (takeR l).2.2 := ⟨_, rfl⟩
  rw [← hL] at r1 ⊢
  rw [← hn, ← he]
  have HN := Lib.hid hn
  have HL := Lib.hid hL
  have HE := Lib.hid he
  clear hn hL he c0
  have c0 : w1.cell? ⟨g, 0, none⟩ = some (.slice A l.length cap) := hb'.cell 0
  have c1 : w1.cell? ⟨g, 1, none⟩ = some (.int .i64 0) := hb'.cell 1
  have f0 := hb'.frozen 0
  have f1 := hb'.frozen 1
  go_wp2_with fail
  go_ret
  refine ⟨by rw [← HN.out]; rfl, ⟨.slice A1 L.length k1, ?_, ?_⟩, grown_set (grown_set (grown_below hb1 _) _ _) _ _⟩
  · rw [← HE.out]
    exact (hb'.set_ 0 _).set_ 1 _
  · rw [← HL.out]
    exact rdt_set (rdt_set r1 hb' (by decide) 0 _) (hb'.set_ 0 _) (by decide) 1 _
set_option maxHeartbeats 1000000 in
set_option maxRecDepth 100000 in
theorem cnum_badT (g : Nat) (l : List Int) (er : Int) (w : World) (h : CutT w g l er) (hk : BytesOk l) (hl : l.length ≤ 1000000) (he : er ≠ 0) :
    Calls Try.prog 32 #[.pointer (some ⟨g, 0, none⟩)] w fun e w' => e = .returned (.int .u64 (takeR l).1) ∧ CutT w' g l er ∧ w.grownBy w' (some g) := by
  have he' : (er == 0) = false := by simpa using he
  obtain ⟨V, hb, hr⟩ := h
  obtain ⟨A, cap, rfl⟩ := hr.form
  have c0 : w.cell? ⟨g, 0, none⟩ = some (.slice A l.length cap) := hb.cell 0
  have HR := Lib.hid hr
  clear hr he
  go_enter Try.func32, Try.ntmps32
  go_wp2_with fail
  refine (take_allT _ l _ HR.out hk (by omega)).mono ?_
  rintro e w1 ⟨v1, rfl, r1, hb1⟩
  have hb' := hb.same hb1
  have c1 : w1.cell? ⟨g, 1, none⟩ = some (.int .i64 er) := hb'.cell 1
  clear c0
  go_wp2_with fail
  go_ret
  exact ⟨rfl, ⟨_, hb', HR.out.below hb1⟩, grown_below hb1 _⟩

set_option maxRecDepth 100000 in
theorem cone_badT (g : Nat) (l : List Int) (er : Int) (w : World) (h : CutT w g l er) (he : er ≠ 0) :
    Calls Try.prog 33 #[.pointer (some ⟨g, 0, none⟩)] w fun e w' => e = .returned (.int .u8 0) ∧ CutT w' g l er ∧ w.grownBy w' (some g) := by
  have he' : (er == 0) = false := by simpa using he
  have he2 : (er != 0) = true := by simpa using he
  obtain ⟨V, hb, hr⟩ := h
  obtain ⟨A, cap, rfl⟩ := hr.form
  have c0 : w.cell? ⟨g, 0, none⟩ = some (.slice A l.length cap) := hb.cell 0
  have c1 : w.cell? ⟨g, 1, none⟩ = some (.int .i64 er) := hb.cell 1
  have HR := Lib.hid hr
  clear hr he
  go_enter Try.func33, Try.ntmps33
  go_wp2_with fail
  go_ret
  exact ⟨rfl, ⟨_, hb, HR.out⟩, grown_refl _ _⟩
set_option maxRecDepth 100000 in
theorem cone_noneT (g : Nat) (w : World) (h : CutT w g [] 0) :
    Calls Try.prog 33 #[.pointer (some ⟨g, 0, none⟩)] w fun e w' => e = .returned (.int .u8 0) ∧ CutT w' g [] 2 ∧ w.grownBy w' (some g) := by
  obtain ⟨V, hb, hr⟩ := h
  obtain ⟨A, cap, rfl⟩ := hr.form
  have c0 : w.cell? ⟨g, 0, none⟩ = some (.slice A 0 cap) := hb.cell 0
  have c1 : w.cell? ⟨g, 1, none⟩ = some (.int .i64 0) := hb.cell 1
  have f1 := hb.frozen 1
  have HR := Lib.hid hr
  clear hr
  go_enter Try.func33, Try.ntmps33
  go_wp2_with fail
  go_ret
  exact ⟨rfl, ⟨_, hb.set_ 1 _, rdt_set HR.out hb (by decide) 1 _⟩, grown_set (grown_refl _ _) _ _⟩
set_option maxHeartbeats 1000000 in
set_option maxRecDepth 100000 in
theorem cone_someT (g : Nat) (b : Int) (r : List Int) (w : World) (h : CutT w g (b :: r) 0) (hk : BytesOk (b :: r)) :
    Calls Try.prog 33 #[.pointer (some ⟨g, 0, none⟩)] w fun e w' => e = .returned (.int .u8 b) ∧ CutT w' g r 0 ∧ w.grownBy w' (some g) := by
  obtain ⟨V, hb, hr⟩ := h
  obtain ⟨A, cap, rfl⟩ := hr.form
  obtain ⟨bb, off, rfl, hbl, hx⟩ := hr.1.at_ 0 (by simp)
  rw [Nat.add_zero] at hx
  have hx2 : w.cell? ⟨bb, off, none⟩ = some (.int .u8 b) := hx
  clear hx
  have hcap := hr.1.rdv.2.2
  have hcap2 : r.length + 1 ≤ cap ∧ cap ≤ 9223372036854775807 := by unfold maxLen at hcap; simp at hcap; omega
  have hS := hr.suf (m := 1) (by simp)
  simp only [List.length_cons, Nat.add_sub_cancel, List.drop_succ_cons, List.drop_zero] at hS
  have c0 : w.cell? ⟨g, 0, none⟩ = some (.slice (some ⟨bb, off, none⟩) (r.length + 1) cap) := hb.cell 0
  have c1 : w.cell? ⟨g, 1, none⟩ = some (.int .i64 0) := hb.cell 1
  have f0 := hb.frozen 0
  have hE := fun h : r = [] => (by rw [h]; exact ⟨Rd.emp w .u8 (some ⟨bb, off, none⟩) 0 (by decide), fun b' off' n' c' e => by obtain ⟨cs, fz, h1⟩ := hr.2 bb off _ _ rfl; simp only [Value.slice.injEq, Option.some.injEq, Addr.mk.injEq] at e; exact ⟨cs, fz, by rw [← e.1.1]; exact h1⟩⟩ : RdT w (.slice (some ⟨bb, off, none⟩) 0 0) r)
  have HS := Lib.hid hS
  have HE := Lib.hid hE
  clear hS hE hcap hr
  by_cases hc : cap = 1
  · have hr0 : r = [] := List.eq_nil_of_length_eq_zero (by omega)
    have HE2 := Lib.hid (HE.out hr0)
    subst hr0
    subst hc
    clear HE
    go_enter Try.func33, Try.ntmps33
    go_wp2_with fail
    go_ret
    exact ⟨rfl, ⟨_, hb.set_ 0 _, rdt_set HE2.out hb (by decide) 0 _⟩, grown_set (grown_refl _ _) _ _⟩
  · have hc' : 1 < cap := by omega
    have hci : (1 : Int) < (cap : Int) := by omega
    clear HE
    go_enter Try.func33, Try.ntmps33
    go_wp2_with fail
    go_ret
    exact ⟨rfl, ⟨_, hb.set_ 0 _, rdt_set HS.out hb (by decide) 0 _⟩, grown_set (grown_refl _ _) _ _⟩

theorem cnum_anyT (g : Nat) (s : List Int × Int) (w : World) (h : CutT w g s.1 s.2) (hs : StOk s) :
    Calls Try.prog 32 #[.pointer (some ⟨g, 0, none⟩)] w fun e w' => e = .returned (.int .u64 (numS s).1) ∧ CutT w' g (numS s).2.1 (numS s).2.2 ∧ w.grownBy w' (some g) := by
  obtain ⟨l, e⟩ := s
  unfold numS
  by_cases he : e = 0
  · subst he
    exact cnum_okT g l w h hs.1 hs.2
  · simp only [if_neg he]
    exact cnum_badT g l e w h hs.1 hs.2 he
theorem cone_anyT (g : Nat) (s : List Int × Int) (w : World) (h : CutT w g s.1 s.2) (hs : StOk s) :
    Calls Try.prog 33 #[.pointer (some ⟨g, 0, none⟩)] w fun e w' => e = .returned (.int .u8 (oneS s).1) ∧ CutT w' g (oneS s).2.1 (oneS s).2.2 ∧ w.grownBy w' (some g) := by
  obtain ⟨l, e⟩ := s
  unfold oneS
  by_cases he : e = 0
  · subst he
    rw [if_neg (by simp)]
    match l, h, hs with
    | [], h, _ => exact cone_noneT g w h
    | b :: r, h, hs => exact cone_someT g b r w h hs.1
  · rw [if_pos he]
    exact cone_badT g l e w h he


end Go.Proofs.Ythmdbkefbbjfmaa
