/-
  What Stale, Max, Late do, each once.
-/
import Derived.Test.YtddgakjcigefoaaList
namespace Go.Proofs.Ytddgakjcigefoaa
open Go.RowKit
set_option linter.unusedVariables false
set_option linter.unusedSimpArgs false


theorem infoN : (Try.prog.info? 22).map (fun i => (i.zero, i.size, i.bytes)) = some (some (.int .u64 0), 1, 8) := by kernel_rfl
theorem laidOut : laidOutB Try.prog = true := by kernel_rfl
theorem own : ownKnob Try.prog.godebug = none := by kernel_rfl

/-- Is a group too late? -/
def staleB (g n win o : Int) : Bool := decide (o ≠ 2 ∧ g < n ∧ win < n - g)
theorem stale_any (g n win o : Int) (w : World) (h0 : 0 ≤ g ∧ g ≤ 18446744073709551615) (h1 : 0 ≤ n ∧ n ≤ 18446744073709551615) (h2 : 0 ≤ win ∧ win ≤ 18446744073709551615) :
    Calls Try.prog 8 #[.int .u64 g, .int .u64 n, .int .u64 win, .int .u8 o] w fun e w' => e = .returned (.bool (staleB g n win o)) ∧ w = w' := by
  by_cases ho : o = 2
  · have hr : staleB g n win o = false := by unfold staleB; simp [ho]
    rw [hr]
    clear hr
    subst ho
    go_enter Try.func8, Try.ntmps8
    go_wp2
    go_ret
    exact ⟨rfl, rfl⟩
  · have hb : (o != 2) = true := by simpa using ho
    by_cases hg : g < n
    · have hr : staleB g n win o = decide (win < n - g) := by unfold staleB; simp [ho, hg]
      rw [hr]
      clear hr ho
      go_enter Try.func8, Try.ntmps8
      go_wp2
      go_ret
      exact ⟨by simp, rfl⟩
    · have hr : staleB g n win o = false := by unfold staleB; simp [hg]
      rw [hr]
      clear hr ho
      go_enter Try.func8, Try.ntmps8
      go_wp2
      go_ret
      exact ⟨by simp, rfl⟩
theorem rstale_any (g n win o : Int) (w : World) (h0 : 0 ≤ g ∧ g ≤ 18446744073709551615) (h1 : 0 ≤ n ∧ n ≤ 18446744073709551615) (h2 : 0 ≤ win ∧ win ≤ 18446744073709551615) :
    Calls Try.prog 9 #[.int .u64 g, .int .u64 n, .int .u64 win, .int .u8 o] w fun e w' => e = .returned (.bool (staleB g n win o)) ∧ w = w' := by
  by_cases ho : o = 2
  · have hr : staleB g n win o = false := by unfold staleB; simp [ho]
    rw [hr]
    clear hr
    subst ho
    go_enter Try.func9, Try.ntmps9
    go_wp2
    go_ret
    exact ⟨rfl, rfl⟩
  · have hb : (o == 2) = false := by simpa using ho
    by_cases hg : g < n
    · have hr : staleB g n win o = decide (win < n - g) := by unfold staleB; simp [ho, hg]
      rw [hr]
      clear hr ho
      go_enter Try.func9, Try.ntmps9
      go_wp2
      go_ret
      exact ⟨by simp, rfl⟩
    · have hr : staleB g n win o = false := by unfold staleB; simp [hg]
      rw [hr]
      clear hr ho
      go_enter Try.func9, Try.ntmps9
      go_wp2
      go_ret
      exact ⟨by simp, rfl⟩

def NumsOk (l : List Int) : Prop := ∀ x ∈ l, 0 ≤ x ∧ x ≤ 18446744073709551615
theorem NumsOk.getD {l : List Int} (h : NumsOk l) (i : Nat) : 0 ≤ l.getD i 0 ∧ l.getD i 0 ≤ 18446744073709551615 := by
  by_cases hi : i < l.length
  · have := h (l[i]) (List.getElem_mem hi)
    simpa [List.getD, hi] using this
  · simp [List.getD, hi]
def maxL (l : List Int) : Int := l.foldl max 0
theorem take_snocT (l : List Int) (k : Nat) (h : k < l.length) : l.take (k + 1) = l.take k ++ [l.getD k 0] := by
  rw [List.take_succ_eq_append_getElem h]; simp [h]
theorem maxL_snoc (l : List Int) (x : Int) : maxL (l ++ [x]) = max (maxL l) x := by simp [maxL]
theorem maxL_ok {l : List Int} (h : NumsOk l) : 0 ≤ maxL l ∧ maxL l ≤ 18446744073709551615 := by
  suffices H : ∀ a : Int, 0 ≤ a → a ≤ 18446744073709551615 → 0 ≤ l.foldl max a ∧ l.foldl max a ≤ 18446744073709551615 from H 0 (by omega) (by omega)
  induction l with
  | nil => intro a h0 h1; exact ⟨h0, h1⟩
  | cons x r ih =>
    intro a h0 h1
    have hx := h x (by simp)
    exact ih (fun y hy => h y (by simp [hy])) (max a x) (by omega) (by omega)

set_option maxHeartbeats 2000000 in
theorem max_any (v : Value) (l : List Int) (w : World) (hl : Rd w .u64 v l) (hk : NumsOk l) (hne : 0 < l.length) :
    Calls Try.prog 17 #[v] w fun e w' => e = .returned (.int .u64 (maxL l)) ∧ w = w' := by
  obtain ⟨A, cap, rfl⟩ := hl.form
  have hm : l.length ≤ 9223372036854775807 := by have := hl.rdv.2.2; unfold maxLen at this; omega
  obtain ⟨b, off, rfl, hb, c0⟩ := hl.at_ 0 hne
  rw [Nat.add_zero] at c0
  have h1 : maxL (l.take 1) = l.getD 0 0 := by
    have := take_snocT l 0 hne
    rw [this]
    have h0 := (hk.getD 0).1
    simp only [List.take_zero, List.nil_append, maxL, List.foldl_cons, List.foldl_nil]
    omega
  obtain ⟨x0, hx0⟩ : ∃ x0, x0 = l.getD 0 0 := ⟨_, rfl⟩
  rw [← hx0] at h1 c0
  have H1 := Lib.hid h1
  clear h1 hx0
  have hlen : ¬(l.length : Int) < 1 := by omega
  go_enter Try.func17, Try.ntmps17
  go_wp2_with fail
  go_loop [3, 4] (fun m i => ∃ k : Nat, 1 ≤ k ∧ k ≤ l.length ∧ i = .int .i64 k ∧ m = .int .u64 (maxL (l.take k))) (fun _ i => l.length - (intOf i).toNat)
  case atStart => exact ⟨1, Nat.le_refl _, hne, rfl, by rw [H1.out]⟩
  case round =>
    obtain ⟨k, hk1, hkl, rfl, rfl⟩ := hrel
    by_cases hlt : k < l.length
    · obtain ⟨b', off', e, _, ck⟩ := hl.at_ k hlt
      simp only [Option.some.injEq, Addr.mk.injEq, and_true] at e
      obtain ⟨rfl, rfl⟩ := e
      obtain ⟨x, hx⟩ : ∃ x, x = l.getD k 0 := ⟨_, rfl⟩
      rw [← hx] at ck
      have hs : maxL (l.take (k + 1)) = max (maxL (l.take k)) x := by rw [take_snocT l k hlt, maxL_snoc, ← hx]
      obtain ⟨m, hmm⟩ : ∃ m, m = maxL (l.take k) := ⟨_, rfl⟩
      rw [← hmm] at hs ⊢
      have hcase : (m < x ∧ maxL (l.take (k + 1)) = x) ∨ (x ≤ m ∧ maxL (l.take (k + 1)) = m) := by omega
      clear hs hmm hx
      rcases hcase with ⟨h1, h2⟩ | ⟨h1, h2⟩
      all_goals
        have H2 := Lib.hid h2
        clear h2
        go_wp2_with fail
        go_round
        case rel => exact ⟨k + 1, by omega, by omega, by go_num, by rw [H2.out]⟩
        case measure => simp [intOf]; omega
    · go_wp2
      go_ret
      exact ⟨by rw [List.take_of_length_le (by omega)]; rfl, rfl⟩

/-- Those that are too late. -/
def lateL (l : List Int) (win : Int) : List Int := l.filter fun g => staleB g (maxL l) win 1

set_option maxHeartbeats 4000000 in
theorem late_any (v : Value) (l : List Int) (win : Int) (w : World) (hl : Rd w .u64 v l) (hk : NumsOk l) (hlen : l.length ≤ 1000) (hw : 0 ≤ win ∧ win ≤ 18446744073709551615) :
    Calls Try.prog 10 #[v, .int .u64 win] w fun e w' => ∃ v', e = .returned v' ∧ w'.ownsRow w.heap.size 22 1 v' (lateL l win).length ((lateL l win).map (Value.int .u64)) ∧ Below w.heap.size w w' := by
  obtain ⟨i1, hj, hy0, hy1, hy2⟩ := info_parts infoN
  obtain ⟨A, cap, rfl⟩ := hl.form
  have HL := Lib.hid hl
  have HK := Lib.hid hk
  clear hl hk
  go_enter Try.func10, Try.ntmps10
  go_wp2_with fail
  go_loopw [5, 10] (fun p5 i wr => ∃ (pv : Value) (k : Nat) (out : List Int), pv = p5 ∧ k ≤ l.length ∧ i = .int .i64 k ∧ out = (l.take k).filter (fun g => staleB g (maxL l) win 1) ∧ out.length ≤ k ∧ wr.ownsRow w.heap.size 22 1 pv out.length (out.map (Value.int .u64)) ∧ Below w.heap.size w wr) (fun _ i _ => l.length - (intOf i).toNat)
  case atStart => exact ⟨_, 0, [], rfl, Nat.zero_le _, rfl, rfl, Nat.le_refl _, World.ownsRow_nil _ _ _ _, Below.refl _ _⟩
  case round =>
    obtain ⟨pv, k, out, rfl, hkl, rfl, hout, hol, ho, hB⟩ := hrel
    have HO := Lib.hid hout
    clear hout
    by_cases hlt : k < l.length
    · obtain ⟨b, off, rfl, hb, ck⟩ := (HL.out.below hB).at_ k hlt
      obtain ⟨x, hx⟩ : ∃ x, x = l.getD k 0 := ⟨_, rfl⟩
      have hxb : 0 ≤ x ∧ x ≤ 18446744073709551615 := by rw [hx]; exact HK.out.getD k
      have hmb := maxL_ok HK.out
      rw [← hx] at ck
      have hs : (l.take (k + 1)).filter (fun g => staleB g (maxL l) win 1) = out ++ (if staleB x (maxL l) win 1 = true then [x] else []) := by
        rw [take_snocT l k hlt, List.filter_append, ← hx, HO.out]
        congr 1
        by_cases hc : staleB x (maxL l) win 1 = true <;> simp [List.filter_cons, hc]
      have hr := HL.out.below hB
      have HR := Lib.hid hr
      clear hx hr
      by_cases hc : staleB x (maxL l) win 1 = true
      · rw [if_pos hc] at hs
        have HS := Lib.hid hs
        clear hs
        have ho3 := ho.alloc (.cells #[.int .u64 x] 22)
        have hB3 := hB.alloc hB.size (.cells #[.int .u64 x] 22)
        go_wp2_with (first | (go_at_call 17; refine (max_any _ l _ HR.out HK.out (by omega)).mono ?_; rintro e w3 ⟨rfl, rfl⟩) | (go_at_call 8; refine (stale_any x (maxL l) win 1 _ hxb hmb hw).mono ?_; rintro e w3 ⟨rfl, rfl⟩) | (at_builtin; refine wpList_append_lies _ rfl _ _ 23 rfl w.heap.size 22 i1 _ 1 8 Try.underlying23 hj hy0 hy1 hy2 rfl (by decide) pv out.length _ rfl ho3 ⟨wr.heap.size, 0, none⟩ 1 1 [.int .u64 x] rfl rfl (World.news_of_block (cs := #[.int .u64 x]) (t := 22) (fr := (0, 0)) (heap_alloc_new wr _)) (by simp [Value.oneCell']) (by decide) (by unfold maxLen; omega) (by omega) hB3.size (wr.heap.size + 1) (by simp) ?_; intro g4 c4 w4 hown4 hgrow4 hat4 hlt4))
        go_roundw
        case rel => exact ⟨_, k + 1, out ++ [x], rfl, by omega, by go_num, HS.out.symm, by simp; omega, by simpa using hown4, hB3.grown hgrow4 hB3.size (fun b hb => (ho.lt b hb).1)⟩
        case measure => simp [intOf]; omega
      · rw [if_neg hc, List.append_nil] at hs
        have hc' : staleB x (maxL l) win 1 = false := by simpa using hc
        have HS := Lib.hid hs
        clear hs hc
        go_wp2_with (first | (go_at_call 17; refine (max_any _ l _ HR.out HK.out (by omega)).mono ?_; rintro e w3 ⟨rfl, rfl⟩) | (go_at_call 8; refine (stale_any x (maxL l) win 1 _ hxb hmb hw).mono ?_; rintro e w3 ⟨rfl, rfl⟩))
        go_roundw
        case rel => exact ⟨_, k + 1, out, rfl, by omega, by go_num, HS.out.symm, by omega, ho, hB⟩
        case measure => simp [intOf]; omega
    · go_wp2
      go_ret
      have hf : out = lateL l win := by rw [HO.out, List.take_of_length_le (by omega)]; rfl
      exact ⟨_, rfl, by rw [← hf]; exact ho, hB⟩

end Go.Proofs.Ytddgakjcigefoaa
