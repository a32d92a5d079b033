/-
  Reading one thing behind the other: what num and one of package item do to a cut.
-/
import Derived.Test.YthmdbkefbbjfmaaVjn
namespace Go.Proofs.Ythmdbkefbbjfmaa
open Go.RowKit
set_option linter.unusedVariables false
set_option linter.unusedSimpArgs false


/-- What Take answers. -/
def takeR (l : List Int) : Int × List Int × Int := match vtake l with | none => (0, [], 2) | some (n, r) => (n, r, 0)
theorem takeR_none {l : List Int} (h : vtake l = none) : takeR l = (0, [], 2) := by unfold takeR; rw [h]
theorem takeR_some {l : List Int} {n : Int} {r : List Int} (h : vtake l = some (n, r)) : takeR l = (n, r, 0) := by unfold takeR; rw [h]
theorem takeR_ok {l : List Int} (hk : BytesOk l) : BytesOk (takeR l).2.1 ∧ (takeR l).2.1.length ≤ l.length ∧ 0 ≤ (takeR l).1 ∧ (takeR l).1 ≤ 4611686018427387903 := by
  rcases ht : vtake l with _ | ⟨n, r⟩
  · rw [takeR_none ht]
    exact ⟨fun x hx => by simp at hx, Nat.zero_le _, Int.le_refl _, by show (0 : Int) ≤ _; decide⟩
  · rw [takeR_some ht]
    obtain ⟨h0, h1, x, r', hl, _, hr, _⟩ := vtake_some hk ht
    refine ⟨?_, ?_, h0, ?_⟩
    · show BytesOk r
      rw [hr]; exact hk.drop _
    · show r.length ≤ _
      rw [hr]; simp
    · show n ≤ _
      omega
/-- A cut at block g: what is left, and the error. -/
def CutAt (w : World) (g : Nat) (l : List Int) (e : Int) : Prop := ∃ V, Blk w g 74 #[V, .int .i64 e] ∧ Rd w .u8 V l
theorem take_all (v : Value) (l : List Int) (w : World) (h : Rd w .u8 v l) (hk : BytesOk l) (hl : l.length ≤ 1099511627776) :
    Calls Try.prog 42 #[v] w fun e w' => ∃ v', e = .returned (.tuple #[.int .u64 (takeR l).1, v', .int .i64 (takeR l).2.2]) ∧ Rd w' .u8 v' (takeR l).2.1 ∧ Below w.heap.size w w' := by
  unfold takeR
  rcases ht : vtake l with _ | ⟨n, r⟩
  · exact (take_none v l w h hk ht).mono fun e w' ⟨he, hB⟩ => ⟨_, he, Rd.nil _ _, hB⟩
  · exact (take_some v l n r w h hk hl ht).mono fun e w' ⟨v', he, ho, hB⟩ => ⟨v', he, rd_of_own ho, hB⟩
theorem rtake_all (v : Value) (l : List Int) (w : World) (h : Rd w .u8 v l) (hk : BytesOk l) (hl : l.length ≤ 1099511627776) :
    Calls Try.prog 43 #[v] w fun e w' => ∃ v', e = .returned (.tuple #[.int .u64 (takeR l).1, v', .int .i64 (takeR l).2.2]) ∧ Rd w' .u8 v' (takeR l).2.1 ∧ Below w.heap.size w w' := by
  unfold takeR
  rcases ht : vtake l with _ | ⟨n, r⟩
  · exact (rtake_none v l w h hk ht).mono fun e w' ⟨he, hB⟩ => ⟨_, he, Rd.nil _ _, hB⟩
  · exact (rtake_some v l n r w h hk hl ht).mono fun e w' ⟨v', he, ho, hB⟩ => ⟨v', he, rd_of_own ho, hB⟩
theorem rd_set {w : World} {g : Nat} {t : TypeId} {cs : Array Value} {V : Value} {l : List Int} (h : Rd w .u8 V l) (hg : Blk w g t cs) (hn : ∀ x ∈ cs.toList, ∀ n, x ≠ .int .u8 n) (i : Nat) (u : Value) : Rd (w.setCell ⟨g, i, none⟩ u) .u8 V l := by
  obtain ⟨A, cap, e, h1, h2, h3, h4⟩ := h
  refine ⟨A, cap, e, h1, h2, h3, fun k hk => ?_⟩
  obtain ⟨b, off, e', hb, hc⟩ := h4 k hk
  refine ⟨b, off, e', by simpa [World.setCell] using hb, fun j hj => ?_⟩
  have hbg : b ≠ g := by
    rintro rfl
    have h0 := hc j hj
    rw [hg.cell] at h0
    have hm : Value.int .u8 (l.getD k 0) ∈ cs.toList := by
      rw [Array.getElem?_toList.symm] at h0
      exact List.mem_of_getElem? h0
    exact hn _ hm _ rfl
  have := Below.heap_setCell w ⟨g, i, none⟩ u b (by simpa using hbg)
  rw [← hc j hj]
  simp only [World.cell?, this]
set_option maxHeartbeats 1000000 in
set_option maxRecDepth 100000 in
theorem cnum_ok (g : Nat) (l : List Int) (w : World) (h : CutAt w g l 0) (hk : BytesOk l) (hl : l.length ≤ 1000000) :
    Calls Try.prog 32 #[.pointer (some ⟨g, 0, none⟩)] w fun e w' => e = .returned (.int .u64 (takeR l).1) ∧ CutAt w' g (takeR l).2.1 (takeR l).2.2 ∧ w.grownBy w' (some g) := by
  obtain ⟨V, hb, hr⟩ := h
  obtain ⟨A, cap, rfl⟩ := hr.form
  have c0 : w.cell? ⟨g, 0, none⟩ = some (.slice A l.length cap) := hb.cell 0
  have HR := Lib.hid hr
  clear hr
  go_enter Try.func32, Try.ntmps32
  go_wp2_with fail
  refine (take_all _ l _ HR.out hk (by omega)).mono ?_
  rintro e w1 ⟨v1, rfl, r1, hb1⟩
  have hb' := hb.same hb1
  obtain ⟨A1, k1, rfl⟩ := r1.form
  obtain ⟨n, hn⟩ : ∃ n, n = (takeR l).1 := ⟨_, rfl⟩
  obtain ⟨L, hL⟩ : ∃ L, L = (takeR l).2.1 := ⟨_, rfl⟩
  obtain ⟨er, he⟩ : ∃ er, er = (takeR l).2.2 := ⟨_, rfl⟩
  rw [← hL] at r1 ⊢
  rw [← hn, ← he]
  have HN := Lib.hid hn
  have HL := Lib.hid hL
  have HE := Lib.hid he
  clear hn hL he c0
  have c0 : w1.cell? ⟨g, 0, none⟩ = some (.slice A l.length cap) := hb'.cell 0
  have c1 : w1.cell? ⟨g, 1, none⟩ = some (.int .i64 0) := hb'.cell 1
  have f0 := hb'.frozen 0
  have f1 := hb'.frozen 1
  go_wp2_with fail
  go_ret
  refine ⟨by rw [← HN.out]; rfl, ⟨.slice A1 L.length k1, ?_, ?_⟩, grown_set (grown_set (grown_below hb1 _) _ _) _ _⟩
  · rw [← HE.out]
    exact (hb'.set_ 0 _).set_ 1 _
  · rw [← HL.out]
    exact rd_set (rd_set r1 hb' (by simp) 0 _) (hb'.set_ 0 _) (by simp) 1 _
set_option maxHeartbeats 1000000 in
set_option maxRecDepth 100000 in
theorem cnum_bad (g : Nat) (l : List Int) (er : Int) (w : World) (h : CutAt w g l er) (hk : BytesOk l) (hl : l.length ≤ 1000000) (he : er ≠ 0) :
    Calls Try.prog 32 #[.pointer (some ⟨g, 0, none⟩)] w fun e w' => e = .returned (.int .u64 (takeR l).1) ∧ CutAt w' g l er ∧ w.grownBy w' (some g) := by
  have he' : (er == 0) = false := by simpa using he
  obtain ⟨V, hb, hr⟩ := h
  obtain ⟨A, cap, rfl⟩ := hr.form
  have c0 : w.cell? ⟨g, 0, none⟩ = some (.slice A l.length cap) := hb.cell 0
  have HR := Lib.hid hr
  clear hr he
  go_enter Try.func32, Try.ntmps32
  go_wp2_with fail
  refine (take_all _ l _ HR.out hk (by omega)).mono ?_
  rintro e w1 ⟨v1, rfl, r1, hb1⟩
  have hb' := hb.same hb1
  have c1 : w1.cell? ⟨g, 1, none⟩ = some (.int .i64 er) := hb'.cell 1
  clear c0
  go_wp2_with fail
  go_ret
  exact ⟨rfl, ⟨_, hb', HR.out.below hb1⟩, grown_below hb1 _⟩

set_option maxRecDepth 100000 in
theorem cone_bad (g : Nat) (l : List Int) (er : Int) (w : World) (h : CutAt w g l er) (he : er ≠ 0) :
    Calls Try.prog 33 #[.pointer (some ⟨g, 0, none⟩)] w fun e w' => e = .returned (.int .u8 0) ∧ CutAt w' g l er ∧ w.grownBy w' (some g) := by
  have he' : (er == 0) = false := by simpa using he
  have he2 : (er != 0) = true := by simpa using he
  obtain ⟨V, hb, hr⟩ := h
  obtain ⟨A, cap, rfl⟩ := hr.form
  have c0 : w.cell? ⟨g, 0, none⟩ = some (.slice A l.length cap) := hb.cell 0
  have c1 : w.cell? ⟨g, 1, none⟩ = some (.int .i64 er) := hb.cell 1
  have HR := Lib.hid hr
  clear hr he
  go_enter Try.func33, Try.ntmps33
  go_wp2_with fail
  go_ret
  exact ⟨rfl, ⟨_, hb, HR.out⟩, grown_refl _ _⟩
set_option maxRecDepth 100000 in
theorem cone_none (g : Nat) (w : World) (h : CutAt w g [] 0) :
    Calls Try.prog 33 #[.pointer (some ⟨g, 0, none⟩)] w fun e w' => e = .returned (.int .u8 0) ∧ CutAt w' g [] 2 ∧ w.grownBy w' (some g) := by
  obtain ⟨V, hb, hr⟩ := h
  obtain ⟨A, cap, rfl⟩ := hr.form
  have c0 : w.cell? ⟨g, 0, none⟩ = some (.slice A 0 cap) := hb.cell 0
  have c1 : w.cell? ⟨g, 1, none⟩ = some (.int .i64 0) := hb.cell 1
  have f1 := hb.frozen 1
  have HR := Lib.hid hr
  clear hr
  go_enter Try.func33, Try.ntmps33
  go_wp2_with fail
  go_ret
  exact ⟨rfl, ⟨_, hb.set_ 1 _, rd_set HR.out hb (by simp) 1 _⟩, grown_set (grown_refl _ _) _ _⟩
set_option maxHeartbeats 1000000 in
set_option maxRecDepth 100000 in
theorem cone_some (g : Nat) (b : Int) (r : List Int) (w : World) (h : CutAt w g (b :: r) 0) (hk : BytesOk (b :: r)) :
    Calls Try.prog 33 #[.pointer (some ⟨g, 0, none⟩)] w fun e w' => e = .returned (.int .u8 b) ∧ CutAt w' g r 0 ∧ w.grownBy w' (some g) := by
  obtain ⟨V, hb, hr⟩ := h
  obtain ⟨A, cap, rfl⟩ := hr.form
  obtain ⟨bb, off, rfl, hbl, hx⟩ := hr.at_ 0 (by simp)
  rw [Nat.add_zero] at hx
  have hx2 : w.cell? ⟨bb, off, none⟩ = some (.int .u8 b) := hx
  clear hx
  have hcap := hr.rdv.2.2
  have hcap2 : r.length + 1 ≤ cap ∧ cap ≤ 9223372036854775807 := by unfold maxLen at hcap; simp at hcap; omega
  have hS := hr.suf (m := 1) (by simp)
  simp only [List.length_cons, Nat.add_sub_cancel, List.drop_succ_cons, List.drop_zero] at hS
  have c0 : w.cell? ⟨g, 0, none⟩ = some (.slice (some ⟨bb, off, none⟩) (r.length + 1) cap) := hb.cell 0
  have c1 : w.cell? ⟨g, 1, none⟩ = some (.int .i64 0) := hb.cell 1
  have f0 := hb.frozen 0
  have hE := fun h : r = [] => (by rw [h]; exact Rd.emp w .u8 (some ⟨bb, off, none⟩) 0 (by decide) : Rd w .u8 (.slice (some ⟨bb, off, none⟩) 0 0) r)
  have HS := Lib.hid hS
  have HE := Lib.hid hE
  clear hS hE hcap hr
  by_cases hc : cap = 1
  · have hr0 : r = [] := List.eq_nil_of_length_eq_zero (by omega)
    have HE2 := Lib.hid (HE.out hr0)
    subst hr0
    subst hc
    clear HE
    go_enter Try.func33, Try.ntmps33
    go_wp2_with fail
    go_ret
    exact ⟨rfl, ⟨_, hb.set_ 0 _, rd_set HE2.out hb (by simp) 0 _⟩, grown_set (grown_refl _ _) _ _⟩
  · have hc' : 1 < cap := by omega
    have hci : (1 : Int) < (cap : Int) := by omega
    clear HE
    go_enter Try.func33, Try.ntmps33
    go_wp2_with fail
    go_ret
    exact ⟨rfl, ⟨_, hb.set_ 0 _, rd_set HS.out hb (by simp) 0 _⟩, grown_set (grown_refl _ _) _ _⟩

/-- A cut's state: what is left, the error; what num and one do to it. -/
def numS (s : List Int × Int) : Int × (List Int × Int) := ((takeR s.1).1, if s.2 = 0 then (takeR s.1).2 else s)
def oneS (s : List Int × Int) : Int × (List Int × Int) := if s.2 ≠ 0 then (0, s) else match s.1 with | [] => (0, ([], 2)) | b :: r => (b, (r, 0))
def StOk (s : List Int × Int) : Prop := BytesOk s.1 ∧ s.1.length ≤ 1000000
theorem numS_ok {s : List Int × Int} (h : StOk s) : StOk (numS s).2 ∧ 0 ≤ (numS s).1 ∧ (numS s).1 ≤ 4611686018427387903 := by
  obtain ⟨h1, h2, h3, h4⟩ := takeR_ok h.1
  refine ⟨?_, h3, h4⟩
  unfold numS
  by_cases he : s.2 = 0
  · simp only [if_pos he]
    exact ⟨h1, Nat.le_trans h2 h.2⟩
  · simp only [if_neg he]
    exact h
theorem oneS_ok {s : List Int × Int} (h : StOk s) : StOk (oneS s).2 ∧ 0 ≤ (oneS s).1 ∧ (oneS s).1 ≤ 255 := by
  obtain ⟨l, e⟩ := s
  unfold oneS
  by_cases he : e ≠ 0
  · rw [if_pos he]
    exact ⟨h, by show (0 : Int) ≤ 0; decide, by show (0 : Int) ≤ 255; decide⟩
  · rw [if_neg he]
    match l, h with
    | [], h => exact ⟨⟨fun x hx => by simp at hx, Nat.zero_le _⟩, by show (0 : Int) ≤ 0; decide, by show (0 : Int) ≤ 255; decide⟩
    | b :: r, h =>
      have hb := h.1 b (by simp)
      exact ⟨⟨fun x hx => h.1 x (by simp [hx]), by have := h.2; simp at this ⊢; omega⟩, hb.1, hb.2⟩
theorem cnum_any (g : Nat) (s : List Int × Int) (w : World) (h : CutAt w g s.1 s.2) (hs : StOk s) :
    Calls Try.prog 32 #[.pointer (some ⟨g, 0, none⟩)] w fun e w' => e = .returned (.int .u64 (numS s).1) ∧ CutAt w' g (numS s).2.1 (numS s).2.2 ∧ w.grownBy w' (some g) := by
  obtain ⟨l, e⟩ := s
  unfold numS
  by_cases he : e = 0
  · subst he
    exact cnum_ok g l w h hs.1 hs.2
  · simp only [if_neg he]
    exact cnum_bad g l e w h hs.1 hs.2 he
theorem cone_any (g : Nat) (s : List Int × Int) (w : World) (h : CutAt w g s.1 s.2) (hs : StOk s) :
    Calls Try.prog 33 #[.pointer (some ⟨g, 0, none⟩)] w fun e w' => e = .returned (.int .u8 (oneS s).1) ∧ CutAt w' g (oneS s).2.1 (oneS s).2.2 ∧ w.grownBy w' (some g) := by
  obtain ⟨l, e⟩ := s
  unfold oneS
  by_cases he : e = 0
  · subst he
    rw [if_neg (by simp)]
    match l, h, hs with
    | [], h, _ => exact cone_none g w h
    | b :: r, h, hs => exact cone_some g b r w h hs.1
  · rw [if_pos he]
    exact cone_bad g l e w h he

end Go.Proofs.Ythmdbkefbbjfmaa
