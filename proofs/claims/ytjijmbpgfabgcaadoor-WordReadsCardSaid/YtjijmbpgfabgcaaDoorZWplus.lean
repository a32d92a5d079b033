/-
  Plain: what was written is read, whatever stands behind; cut off it isn't all there. No condition.
-/
import Derived.Test.YtjijmbpgfabgcaaDoorZWloosep
import Derived.Test.YtjijmbpgfabgcaaDoorZI
import Derived.Test.YtjijmbpgfabgcaaDoorZWfew
namespace Go.Proofs.YtjijmbpgfabgcaaDoor
open Go.RowKit
set_option linter.unusedVariables false
set_option linter.unusedSimpArgs false

theorem prt_small {k : Int} (h : (prt k).2 = true) : 0 ≤ k ∧ k < 64 := by
  unfold prt at h
  rcases hf : kT.findIdx? (fun x : Int × Int => x.1 == k) with _ | i
  · rw [hf] at h; simp at h
  · obtain ⟨hi, h1, _⟩ := List.findIdx?_eq_some_iff_getElem.1 hf
    have h2 : (kT.getD i (0, 0)).1 = k := by simpa [List.getD, hi] using h1
    have h3 := (show ∀ i, i < 17 → 0 ≤ (kT.getD i (0, 0)).1 ∧ (kT.getD i (0, 0)).1 < 64 by decide) i hi
    omega
theorem bts_eq {m : M} (hR : Right m) : bts m = m.kd :: ((fb m (shP (prt m.kd).1)).length : Int) / 256 :: ((fb m (shP (prt m.kd).1)).length : Int) % 256 :: fb m (shP (prt m.kd).1) := by
  have h1 := prt_small hR.1
  have h2 : vsz m.kd = 1 := by rcases vsz_cases m.kd with ⟨_, e⟩ | h' | h' | h' | h' <;> omega
  unfold bts
  rw [h2, vform1]
  rfl
theorem whole_bts {m : M} (h : m.Ok) (hR : Right m) : wholeR m.kd (fb m (shP (prt m.kd).1)) = some m := by
  unfold wholeR
  rw [parse_right m h hR]
  exact if_pos ((rt_iff m h).2 hR)
theorem read_bts {m : M} (h : m.Ok) (hR : Right m) (t : List Int) : readR (bts m ++ t) = (some m, t, 0) := by
  have h1 := prt_small hR.1
  have hw := whole_bts h hR
  rw [bts_eq hR]
  generalize fb m (shP (prt m.kd).1) = F at hw
  unfold readR
  rw [List.cons_append, vtake_one m.kd _ h1]
  have e : 256 * ((F.length : Int) / 256) + (F.length : Int) % 256 = (F.length : Int) := by omega
  have hp : (prt m.kd).2 = true := hR.1
  simp only [hp, Bool.true_eq_false, if_false, List.cons_append, e]
  rw [if_neg (by rw [List.length_append]; omega), Int.toNat_natCast, List.take_left, List.drop_left, hw]
theorem cut_bts {m : M} (hR : Right m) (k : Nat) (hk : k < (bts m).length) : readR ((bts m).take k) = (none, [], 2) := by
  have h1 := prt_small hR.1
  have hp : (prt m.kd).2 = true := hR.1
  rw [bts_eq hR] at hk ⊢
  generalize fb m (shP (prt m.kd).1) = F at hk ⊢
  have e : 256 * ((F.length : Int) / 256) + (F.length : Int) % 256 = (F.length : Int) := by omega
  unfold readR
  rcases k with _ | _ | _ | k
  · rfl
  · rw [List.take_succ_cons, vtake_one m.kd _ h1]
    simp only [hp, Bool.true_eq_false, if_false, List.take_zero]
  · rw [List.take_succ_cons, vtake_one m.kd _ h1]
    simp only [hp, Bool.true_eq_false, if_false, List.take_succ_cons, List.take_zero]
  · rw [List.take_succ_cons, vtake_one m.kd _ h1]
    simp only [hp, Bool.true_eq_false, if_false, List.take_succ_cons, e]
    simp only [List.length_cons] at hk
    rw [if_pos (by rw [List.length_take]; omega)]
theorem few_ok {m : M} (h : m.Ok) : (few m).Ok := { h with nm := h.nm.take 40, rs := h.rs.take 80, vs := fun x hx => h.vs x (List.mem_of_mem_take hx) }
theorem few_fit (m : M) : (few m).Fit := ⟨by show (m.nm.take 40).length ≤ _; rw [List.length_take]; omega, by show (m.rs.take 80).length ≤ _; rw [List.length_take]; omega, by show (m.vs.take 12).length ≤ _; rw [List.length_take]; omega⟩
theorem bts_len {m : M} (hR : Right m) : (bts m).length ≤ 600 ∧ 0 < (bts m).length := by
  have := right_len hR
  rw [bts_eq hR]
  simp only [List.length_cons]
  omega
theorem fitS {l : List Int} (h : ∀ x ∈ l, x ≤ 4611686018427387903) : FitN l := fun x hx => vsz_some (h x hx)
theorem piece_ok {m : M} (h : m.Ok) (hs : small m) (hr : m.rs.length ≤ 64) {c : Int} (hc : c ∈ LETS) (ho : okL m c = true) : BytesOk (pieceL m c) := by
  obtain ⟨s1, s2, s3, s4, s5, s6, s7, s8, s9, s10⟩ := (small_iff m).1 hs
  have j1 : ∀ a : Int, (0 ≤ a ∧ a ≤ 18446744073709551615) → a ≤ 4611686018427387903 → BytesOk (joinN [a]) := fun a h k => joinN_ok [a] (fitS (by simpa using k)) (fun x hx => by simp only [List.mem_singleton] at hx; rw [hx]; exact h)
  have j2 : ∀ a b : Int, (0 ≤ a ∧ a ≤ 18446744073709551615) → a ≤ 4611686018427387903 → (0 ≤ b ∧ b ≤ 18446744073709551615) → b ≤ 4611686018427387903 → BytesOk (joinN [a, b]) := fun a b h k h' k' => joinN_ok [a, b] (fitS (by simp; exact ⟨k, k'⟩)) (fun x hx => by
    simp only [List.mem_cons, List.not_mem_nil, or_false] at hx
    rcases hx with hx | hx
    · rw [hx]; exact h
    · rw [hx]; exact h')
  have b1 : ∀ a : Int, (0 ≤ a ∧ a ≤ 255) → BytesOk [a] := fun a h x hx => by simp only [List.mem_singleton] at hx; rw [hx]; exact h
  simp only [LETS, List.mem_cons, List.not_mem_nil, or_false] at hc
  rcases hc with rfl | rfl | rfl | rfl | rfl | rfl | rfl | rfl | rfl | rfl | rfl | rfl | rfl | rfl
  · rw [piece_105]; exact j1 _ h.id s1
  · rw [piece_97]; exact j1 _ h.al s2
  · rw [okL_116] at ho; rw [piece_116]; exact txtB_ok m.nm (by omega) h.nm
  · rw [piece_112]; exact b1 _ h.pr
  · rw [piece_111]; exact b1 _ h.od
  · rw [piece_115]; exact j2 _ _ h.sg s6 h.so s7
  · rw [piece_101]; exact j2 _ _ h.eg s8 h.eo s9
  · rw [piece_103]; exact j1 _ h.eg s8
  · rw [piece_98]; exact b1 _ (by cases m.sm <;> decide)
  · rw [piece_99]; exact j1 _ h.cd s3
  · rw [piece_114]; exact txtB_ok m.rs (by omega) h.rs
  · rw [piece_110]; exact j1 _ h.n s4
  · rw [piece_118]; exact j1 _ h.ve s5
  · rw [okL_108] at ho; rw [piece_108]; exact (j1 _ (by omega) (by omega)).append (joinN_ok m.vs (fitS s10) h.vs)
theorem fb_ok {m : M} (h : m.Ok) (hs : small m) (hr : m.rs.length ≤ 64) : ∀ L : List Int, (∀ c ∈ L, c ∈ LETS ∧ okL m c = true) → BytesOk (fb m L)
  | [], _ => fun x hx => by simp [fb] at hx
  | c :: L, hL => by
    rw [fb_cons]
    exact (piece_ok h hs hr (hL c (by simp)).1 (hL c (by simp)).2).append (fb_ok h hs hr L (fun d hd => hL d (by simp [hd])))
theorem bts_ok {m : M} (h : m.Ok) (hR : Right m) : BytesOk (bts m) := by
  have h1 := prt_small hR.1
  have h2 := right_len hR
  have h3 := fb_ok h hR.2.2.2.1 hR.2.2.1 (shP (prt m.kd).1) (fun c hc => ⟨(shP_ok _ (prt_mem _ hR.1)).1 c hc, hR.2.2.2.2 c hc⟩)
  rw [bts_eq hR]
  intro x hx
  simp only [List.mem_cons] at hx
  rcases hx with rfl | rfl | rfl | hx
  · omega
  · omega
  · omega
  · exact h3 x hx
theorem front_slice {w : World} {A : Option Addr} {n c : Nat} {l : List Int} (h : RdT w (.slice A n c) l) (hi : Nat) (h2 : hi ≤ l.length) :
    ∀ W, (Instr.slice 23 (.slice A n c) none (some (.int .i64 (hi : Int))) none).run Tryd.prog W = .ok (.slice A hi c) W := by
  have ht : Tryd.prog.underlying 23 = some (.slice (Tryd.prog.elem 23)) := by simp [Program.elem, Tryd.underlying23]
  have he : Tryd.prog.elem 23 = 5 := by simp [Program.elem, Tryd.underlying23]
  intro W
  rcases h.shape with ⟨cap, e, e2⟩ | ⟨b, o, cap, cs, e, k1, k2, k3, k4⟩
  · simp only [Value.slice.injEq] at e
    obtain ⟨rfl, rfl, rfl⟩ := e
    have : hi = 0 := by rw [e2] at h2; simpa using h2
    subst this
    rw [run_slice_h W 23 _ _ _ ht .i64 _ (by omega) (by omega), he, Tryd.sizeOf5]
    simp [Result.andThen, sliced]
  · simp only [Value.slice.injEq] at e
    obtain ⟨rfl, rfl, rfl⟩ := e
    rw [run_slice_h W 23 _ _ _ ht .i64 _ (by omega) (by omega), he, Tryd.sizeOf5]
    simp [Result.andThen, sliced, Addr.add]
theorem few_few (m : M) : few (few m) = few m := by
  simp [few, List.take_take]
end Go.Proofs.YtjijmbpgfabgcaaDoor
