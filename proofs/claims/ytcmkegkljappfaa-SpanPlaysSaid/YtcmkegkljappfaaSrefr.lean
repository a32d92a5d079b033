/-
  The reference's ranges are the set's. No condition.
-/
import Derived.Test.YtcmkegkljappfaaSrefp
import Derived.Test.YtcmkegkljappfaaSawake
namespace Go.Proofs.Ytcmkegkljappfaa
open Go.RowKit
set_option linter.unusedVariables false
set_option linter.unusedSimpArgs false


theorem rl_succ (L : List (Int × Int)) (c : Nat) (hc : c < L.length) : L.reverse.take (L.length - c) = L.reverse.take (L.length - (c + 1)) ++ [L.getD c (0, 0)] := by
  have h := rev_take L (L.length - (c + 1)) (by omega)
  rw [show L.length - (c + 1) + 1 = L.length - c by omega, show L.length - 1 - (L.length - (c + 1)) = c by omega] at h
  exact h
/-- There are no more ranges than came. -/
theorem rp_len {R L : List (Int × Int)} (h : Rp R L) : L.length ≤ R.length := by
  have key : ∀ c, c ≤ L.length → ∀ B, Lo L c B → c ≤ cb R B := by
    intro c
    induction c with
    | zero => intro _ B _; exact Nat.zero_le _
    | succ c ih =>
      intro hc B k
      have h1 := ih (by omega) _ (k.next h.n)
      obtain ⟨r, hr, e⟩ := h.begins (t := c) (by omega)
      have hup := h.n.up c (by omega)
      have := k.lo c (by omega)
      have := cb_lt hr e (show (L.getD c (0, 0)).1 < B by omega)
      omega
  exact Nat.le_trans (key L.length (Nat.le_refl _) _ (Lo.all h.n)) (cb_le R _)
theorem mem_get {R : List (Int × Int)} {t : Nat} (ht : t < R.length) : R.getD t (0, 0) ∈ R := by
  have e : R.getD t (0, 0) = R[t] := by simp [List.getD, ht]
  rw [e]
  exact List.getElem_mem ht
theorem get_mem {R : List (Int × Int)} {r : Int × Int} (hr : r ∈ R) : ∃ t, t < R.length ∧ R.getD t (0, 0) = r := by
  obtain ⟨t, ht, rfl⟩ := List.getElem_of_mem hr
  exact ⟨t, ht, by simp [List.getD, ht]⟩
/-- The greatest below, so far. -/
structure Bs (R : List (Int × Int)) (B : Int) (k : Nat) (best : Int) (so : Bool) : Prop where
  no : so = false → ∀ t, t < k → ¬ (R.getD t (0, 0)).1 < B
  yes : so = true → (∃ t, t < k ∧ (R.getD t (0, 0)).1 < B ∧ best = min (R.getD t (0, 0)).2 (B - 1)) ∧ ∀ t, t < k → (R.getD t (0, 0)).1 < B → min (R.getD t (0, 0)).2 (B - 1) ≤ best
theorem Bs.start {R : List (Int × Int)} {B : Int} : Bs R B 0 0 false := ⟨fun _ t ht => by omega, fun h => by cases h⟩
section
variable {R : List (Int × Int)} {B : Int} {k : Nat} {best : Int} {so : Bool}
theorem Bs.skip (h : Bs R B k best so) (hb : ¬ (R.getD k (0, 0)).1 < B) : Bs R B (k + 1) best so := by
  refine ⟨fun e t ht => ?_, fun e => ?_⟩
  · rcases Nat.lt_or_eq_of_le (Nat.le_of_lt_succ ht) with h1 | rfl
    · exact h.no e t h1
    · exact hb
  · obtain ⟨⟨t, ht, h1, h2⟩, h3⟩ := h.yes e
    refine ⟨⟨t, by omega, h1, h2⟩, fun u hu hub => ?_⟩
    rcases Nat.lt_or_eq_of_le (Nat.le_of_lt_succ hu) with h4 | rfl
    · exact h3 u h4 hub
    · exact absurd hub hb
theorem Bs.first (h : Bs R B k best false) (hb : (R.getD k (0, 0)).1 < B) {b : Int} (he : b = min (R.getD k (0, 0)).2 (B - 1)) : Bs R B (k + 1) b true := by
  refine ⟨(fun e => by cases e), fun _ => ⟨⟨k, by omega, hb, he⟩, fun u hu hub => ?_⟩⟩
  rcases Nat.lt_or_eq_of_le (Nat.le_of_lt_succ hu) with h4 | rfl
  · exact absurd hub (h.no rfl u h4)
  · omega
theorem Bs.more (h : Bs R B k best true) (hb : (R.getD k (0, 0)).1 < B) {b : Int} (he : b = min (R.getD k (0, 0)).2 (B - 1)) (hl : best < b) : Bs R B (k + 1) b true := by
  refine ⟨(fun e => by cases e), fun _ => ⟨⟨k, by omega, hb, he⟩, fun u hu hub => ?_⟩⟩
  rcases Nat.lt_or_eq_of_le (Nat.le_of_lt_succ hu) with h4 | rfl
  · have := (h.yes rfl).2 u h4 hub; omega
  · omega
theorem Bs.keep (h : Bs R B k best true) (hl : min (R.getD k (0, 0)).2 (B - 1) ≤ best) : Bs R B (k + 1) best true := by
  refine ⟨(fun e => by cases e), fun _ => ?_⟩
  obtain ⟨⟨t, ht, h1, h2⟩, h3⟩ := h.yes rfl
  refine ⟨⟨t, by omega, h1, h2⟩, fun u hu hub => ?_⟩
  rcases Nat.lt_or_eq_of_le (Nat.le_of_lt_succ hu) with h4 | rfl
  · exact h3 u h4 hub
  · exact hl
end
/-- One way down, so far. -/
def Dn (R : List (Int × Int)) (lo low0 : Int) (k : Nat) (low : Int) : Prop :=
  lo ≤ low ∧ ((low = low0 ∧ ∀ t, t < k → ¬ ((R.getD t (0, 0)).1 < low0 ∧ low0 ≤ (R.getD t (0, 0)).2 + 1)) ∨ (low < low0 ∧ ∃ t, t < R.length ∧ (R.getD t (0, 0)).1 = low))
theorem Dn.keep {R : List (Int × Int)} {lo low0 : Int} {k : Nat} {low : Int} (h : Dn R lo low0 k low) (hn : ¬ ((R.getD k (0, 0)).1 < low ∧ low ≤ (R.getD k (0, 0)).2 + 1)) : Dn R lo low0 (k + 1) low := by
  refine ⟨h.1, ?_⟩
  rcases h.2 with ⟨rfl, h2⟩ | h2
  · refine .inl ⟨rfl, fun t ht => ?_⟩
    rcases Nat.lt_or_eq_of_le (Nat.le_of_lt_succ ht) with h4 | rfl
    · exact h2 t h4
    · exact hn
  · exact .inr h2
theorem Dn.go {R L : List (Int × Int)} {c : Nat} (hR : Rp R L) (hc : c < L.length) {low0 : Int} {k : Nat} (hk : k < R.length) {low : Int} (h : Dn R (L.getD c (0, 0)).1 low0 k low) (h1 : (R.getD k (0, 0)).1 < low) (h2 : low ≤ (R.getD k (0, 0)).2 + 1) : Dn R (L.getD c (0, 0)).1 low0 (k + 1) (R.getD k (0, 0)).1 := by
  refine ⟨hR.down hc h.1 (mem_get hk) h1 h2, .inr ⟨?_, k, hk, rfl⟩⟩
  rcases h.2 with ⟨rfl, _⟩ | ⟨h3, _⟩ <;> omega
/-- A whole round down: at the beginning, or fewer are below. -/
theorem Dn.round {R L : List (Int × Int)} {c : Nat} (hR : Rp R L) (hc : c < L.length) {low0 low : Int} {q : Nat} (hu : low0 ≤ (L.getD c (0, 0)).2) (hl : (L.getD c (0, 0)).1 ≤ low0) (hq : low0 = (L.getD c (0, 0)).1 ∨ cb R low0 + q ≤ R.length) (h : Dn R (L.getD c (0, 0)).1 low0 R.length low) :
    low ≤ (L.getD c (0, 0)).2 ∧ (L.getD c (0, 0)).1 ≤ low ∧ (low = (L.getD c (0, 0)).1 ∨ cb R low + (q + 1) ≤ R.length) := by
  rcases h.2 with ⟨rfl, h2⟩ | ⟨h2, t, ht, h3⟩
  · refine ⟨hu, hl, .inl (hR.stop hc hl hu fun r hr => ?_)⟩
    obtain ⟨t, ht, rfl⟩ := get_mem hr
    exact h2 t ht
  · refine ⟨by omega, h.1, ?_⟩
    rcases hq with rfl | hq
    · have := h.1; omega
    · have := cb_lt (mem_get ht) h3 h2
      exact .inr (by omega)
theorem Dn.end_ {R L : List (Int × Int)} {c : Nat} (hR : Rp R L) (hc : c < L.length) {low : Int} (hu : low ≤ (L.getD c (0, 0)).2) (hl : (L.getD c (0, 0)).1 ≤ low) (hq : low = (L.getD c (0, 0)).1 ∨ cb R low + R.length ≤ R.length) : low = (L.getD c (0, 0)).1 := by
  rcases hq with h | h
  · exact h
  · refine hR.stop hc hl hu fun r hr hh => ?_
    have := cb_pos hr hh.1
    omega
set_option maxHeartbeats 8000000 in
set_option maxRecDepth 100000 in
theorem rangesR_any (B g : Nat) (rb : Option Nat) (R L : List (Int × Int)) (w : World) (hs : RSet B w g rb R) (hR : Rp R L) (hlen : R.length ≤ 4000000000) :
    Calls Try.prog 22 #[.pointer (some ⟨g, 0, none⟩)] w fun e w' => ∃ v, e = .returned v ∧ w'.ownsRow w.heap.size 30 2 v L.reverse.length (pcs L.reverse) ∧ Below w.heap.size w w' := by
  obtain ⟨i0, hi, hz0, hz1, hz2⟩ := info_parts infoR
  obtain ⟨hBg, V, hV, hblk, hown⟩ := hs
  obtain ⟨A, cap, rfl, hnc, hcm, _⟩ := sl_of_own hown
  have hcm' : cap ≤ 9223372036854775807 := by unfold maxLen at hcm; omega
  have hrd := rdp_of_own hown
  have c0 : w.cell? ⟨g, 0, none⟩ = some (.slice A R.length cap) := hblk.cell 0
  have hgl := hblk.lt
  obtain ⟨n, hn⟩ : ∃ n, n = R.length := ⟨_, rfl⟩
  rw [← hn] at c0 hrd hnc hlen
  have HN := Lib.hid hn
  have HR := Lib.hid hrd
  have HP := Lib.hid hR
  have C0 := Lib.hid c0
  have hLl : L.length ≤ n := by
    rw [hn]
    exact rp_len hR
  have hb0 : 9223372036854775808 = (9223372036854775808 : Int) := rfl
  clear hblk hown hrd hR hn hcm
  go_enter Try.func22, Try.ntmps22
  go_wp2_with fail
  clear c0
  go_loopw [3, 4, 19] (fun s3 s4 s19 wr => ∃ (ov : Value) (j c : Nat) (Bv : Int), ov = s3 ∧ s4 = .int .u64 Bv ∧ s19 = .int .i64 j ∧ j ≤ n ∧ c ≤ L.length ∧ wr.ownsRow w.heap.size 30 2 ov (L.length - c) (pcs (L.reverse.take (L.length - c))) ∧ Hid (Lo L c Bv ∧ cb R Bv + j ≤ n) ∧ 0 ≤ Bv ∧ Bv ≤ 9223372036854775808 ∧ Below w.heap.size w wr) (fun _ _ s19 _ => n - (intOf s19).toNat)
  case atStart => exact ⟨_, 0, L.length, _, rfl, rfl, rfl, Nat.zero_le _, Nat.le_refl _, by rw [Nat.sub_self]; exact World.ownsRow_nil _ _ _ _, Lib.hid ⟨Lo.all HP.out.n, by rw [HN.out]; exact cb_le R _⟩, by decide, by decide, Below.refl _ _⟩
  case round =>
    obtain ⟨ov, j, c, Bv, rfl, rfl, rfl, hjn, hcL, hO, HL, hB0, hB1, hB⟩ := hrel
    have c1 := keepB_cell C0.out _ hB
    by_cases hjlt : j < n
    · obtain ⟨wo, hwo⟩ : ∃ wo, wo = wr := ⟨_, rfl⟩
      subst hwo
      go_wp2_with fail
      clear c1
      go_loopw [5, 6, 26] (fun s5 s6 s26 wr => ∃ (best : Int) (so : Bool) (k : Nat), s5 = .int .u64 best ∧ s6 = .bool so ∧ s26 = .int .i64 k ∧ k ≤ n ∧ Hid (Bs R Bv k best so) ∧ 0 ≤ best ∧ best ≤ 9223372036854775808 ∧ Below wo.heap.size wo wr) (fun _ _ s26 _ => n - (intOf s26).toNat)
      case atStart => exact ⟨0, false, 0, rfl, rfl, rfl, Nat.zero_le _, Lib.hid Bs.start, by decide, by decide, Below.refl _ _⟩
      case round =>
        obtain ⟨best, so, k, rfl, rfl, rfl, hkn, HB, hbe0, hbe1, hb⟩ := hrel
        have hB2 := hB.trans (hb.mono hB.size)
        by_cases hk : k < n
        · obtain ⟨bb, off, rfl, hbb, d0, d1⟩ := (HR.out.below hB2).get k hk
          have hro := HP.out.o _ (mem_get (R := R) (t := k) (by rw [← HN.out]; exact hk))
          have HX : Hid (∀ a b, R.getD k (0, 0) = (a, b) → True) := Lib.hid fun _ _ _ => trivial
          obtain ⟨x, hx⟩ : ∃ x, x = R.getD k (0, 0) := ⟨_, rfl⟩
          rw [← hx] at d0 d1 hro
          have HX := Lib.hid hx
          clear hx
          obtain ⟨a, b⟩ := x
          simp only [MX] at d0 d1 hro
          obtain ⟨ha0, hab, hbM⟩ := hro
          have hbA := hb.alloc hb.size (.cells #[.int .u64 a, .int .u64 b] 30)
          have ea : (R.getD k (0, 0)).1 = a := by rw [← HX.out]
          have eb : (R.getD k (0, 0)).2 = b := by rw [← HX.out]
          by_cases h1 : a < Bv
          · have hw : IntKind.u64.wrap (Bv - 1) = Bv - 1 := Go.IntWalk.u64_in _ (by omega)
            obtain ⟨mn, hmn⟩ : ∃ mn, mn = min b (Bv - 1) := ⟨_, rfl⟩
            have hmn3 : (b ≤ Bv - 1 ∧ mn = b) ∨ (Bv - 1 < b ∧ mn = Bv - 1) := by omega
            have HMN : Hid (mn = min (R.getD k (0, 0)).2 (Bv - 1)) := Lib.hid (by rw [eb]; exact hmn)
            have HA : Hid ((R.getD k (0, 0)).1 < Bv) := Lib.hid (by rw [ea]; exact h1)
            clear hmn ea eb HX
            have q1 : decide (a < Bv) = true := decide_eq_true h1
            cases so
            · rcases hmn3 with ⟨hm1, rfl⟩ | ⟨hm1, rfl⟩
              · rcases (show mn < Bv - 1 ∨ mn = Bv - 1 by omega) with hm2 | rfl
                all_goals
                  go_wp2_with fail
                  clear d0 d1
                  go_roundw
                  case rel => exact ⟨_, true, k + 1, rfl, rfl, by go_num, by omega, Lib.hid (HB.out.first HA.out HMN.out), by omega, by omega, hbA⟩
                  case measure => simp [intOf]; omega
              · go_wp2_with fail
                clear d0 d1
                go_roundw
                case rel => exact ⟨_, true, k + 1, rfl, rfl, by go_num, by omega, Lib.hid (HB.out.first HA.out HMN.out), by omega, by omega, hbA⟩
                case measure => simp [intOf]; omega
            · by_cases h2 : best < mn
              · have HK := Lib.hid (HB.out.more HA.out HMN.out h2)
                rcases hmn3 with ⟨hm1, rfl⟩ | ⟨hm1, rfl⟩
                · rcases (show mn < Bv - 1 ∨ mn = Bv - 1 by omega) with hm2 | rfl
                  all_goals
                    go_wp2_with fail
                    clear d0 d1
                    go_roundw
                    case rel => exact ⟨_, true, k + 1, rfl, rfl, by go_num, by omega, HK, by omega, by omega, hbA⟩
                    case measure => simp [intOf]; omega
                · go_wp2_with fail
                  clear d0 d1
                  go_roundw
                  case rel => exact ⟨_, true, k + 1, rfl, rfl, by go_num, by omega, HK, by omega, by omega, hbA⟩
                  case measure => simp [intOf]; omega
              · have HK := Lib.hid (HB.out.keep (by rw [← HMN.out]; omega))
                have h2' : mn ≤ best := by omega
                rcases hmn3 with ⟨hm1, rfl⟩ | ⟨hm1, rfl⟩
                · rcases (show mn < Bv - 1 ∨ mn = Bv - 1 by omega) with hm2 | rfl
                  all_goals
                    go_wp2_with fail
                    clear d0 d1
                    go_roundw
                    case rel => exact ⟨_, true, k + 1, rfl, rfl, by go_num, by omega, HK, by omega, by omega, hbA⟩
                    case measure => simp [intOf]; omega
                · go_wp2_with fail
                  clear d0 d1
                  go_roundw
                  case rel => exact ⟨_, true, k + 1, rfl, rfl, by go_num, by omega, HK, by omega, by omega, hbA⟩
                  case measure => simp [intOf]; omega
          · have q1 : decide (a < Bv) = false := decide_eq_false h1
            have HK := Lib.hid (HB.out.skip (by rw [ea]; exact h1))
            clear ea eb HX
            go_wp2_with fail
            clear d0 d1
            go_roundw
            case rel => exact ⟨_, _, k + 1, rfl, rfl, by go_num, by omega, HK, hbe0, hbe1, hbA⟩
            case measure => simp [intOf]; omega
        · obtain rfl : n = k := by omega
          clear hk hkn
          obtain ⟨wd, hwd⟩ : ∃ wd, wd = wr := ⟨_, rfl⟩
          subst hwd
          have c1 := keepB_cell C0.out _ hB2
          have hO2 := own_same hO hb
          cases so
          · have hc0 : c = 0 := HP.out.none_ HL.out.1 fun r hr => by
              obtain ⟨t, ht, rfl⟩ := get_mem hr
              exact HB.out.no rfl t (by rw [HN.out]; exact ht)
            subst hc0
            rw [Nat.sub_zero, show L.reverse.take L.length = L.reverse from List.take_of_length_le (by simp)] at hO2
            clear c1
            obtain ⟨A1, cp1, rfl, _⟩ := sl_of_own hO2
            go_wp2_with fail
            go_ret
            exact ⟨_, rfl, by simpa using hO2, hB2⟩
          · have hcp : 0 < c := by
              obtain ⟨⟨t, ht, h1, _⟩, _⟩ := HB.out.yes rfl
              exact HP.out.some_ HL.out.1 (mem_get (R := R) (t := t) (by rw [← HN.out]; exact ht)) h1
            obtain ⟨c, rfl⟩ : ∃ c', c = c' + 1 := ⟨c - 1, by omega⟩
            have hcl : c < L.length := by omega
            have hbest : best = (L.getD c (0, 0)).2 := by
              obtain ⟨⟨t, ht, h1, h2⟩, h3⟩ := HB.out.yes rfl
              refine HP.out.best HL.out.1 ⟨_, mem_get (R := R) (t := t) (by rw [← HN.out]; exact ht), h1, h2⟩ fun r hr hb => ?_
              obtain ⟨u, hu, rfl⟩ := get_mem hr
              exact h3 u (by rw [HN.out]; exact hu) hb
            have hup := HP.out.n.up c hcl
            obtain ⟨y, hy⟩ : ∃ y, y = L.getD c (0, 0) := ⟨_, rfl⟩
            have HY := Lib.hid hy
            rw [← hy] at hbest hup
            clear hy
            obtain ⟨lo, hi2⟩ := y
            simp only [MX] at hbest hup
            subst hbest
            have eL1 : (L.getD c (0, 0)).1 = lo := by rw [← HY.out]
            have eL2 : (L.getD c (0, 0)).2 = best := by rw [← HY.out]
            have HE1 := Lib.hid eL1
            have HE2 := Lib.hid eL2
            clear eL1 eL2 HB hcp
            go_wp2_with fail
            clear c1
            go_loopw [9, 61] (fun s9 s61 wr => ∃ (low : Int) (q : Nat), s9 = .int .u64 low ∧ s61 = .int .i64 q ∧ q ≤ n ∧ lo ≤ low ∧ low ≤ best ∧ Hid (low = lo ∨ cb R low + q ≤ n) ∧ Below wd.heap.size wd wr) (fun _ s61 _ => n - (intOf s61).toNat)
            case atStart => exact ⟨best, 0, rfl, rfl, Nat.zero_le _, hup.2.1, Int.le_refl _, Lib.hid (.inr (by rw [HN.out]; exact cb_le R _)), Below.refl _ _⟩
            case round =>
              obtain ⟨low, q, rfl, rfl, hqn, hlo, hhi, HQ, hb3⟩ := hrel
              have hB3 := hB2.trans (hb3.mono hB2.size)
              have c1 := keepB_cell C0.out _ hB3
              by_cases hq : q < n
              · obtain ⟨we, hwe⟩ : ∃ we, we = wr := ⟨_, rfl⟩
                subst hwe
                go_wp2_with fail
                clear c1
                go_loopw [9, 68] (fun s9 s68 wr => ∃ (l2 : Int) (k : Nat), s9 = .int .u64 l2 ∧ s68 = .int .i64 k ∧ k ≤ n ∧ 0 ≤ l2 ∧ l2 ≤ best ∧ Hid (Dn R lo low k l2) ∧ Below we.heap.size we wr) (fun _ s68 _ => n - (intOf s68).toNat)
                case atStart => exact ⟨low, 0, rfl, rfl, Nat.zero_le _, by omega, hhi, Lib.hid ⟨hlo, .inl ⟨rfl, fun t ht => by omega⟩⟩, Below.refl _ _⟩
                case round =>
                  obtain ⟨l2, k, rfl, rfl, hkn, hl0, hl1, HD, hb4⟩ := hrel
                  have hB4 := hB3.trans (hb4.mono hB3.size)
                  by_cases hk : k < n
                  · obtain ⟨bb, off, rfl, hbb, d0, d1⟩ := (HR.out.below hB4).get k hk
                    have hro := HP.out.o _ (mem_get (R := R) (t := k) (by rw [← HN.out]; exact hk))
                    obtain ⟨x, hx⟩ : ∃ x, x = R.getD k (0, 0) := ⟨_, rfl⟩
                    rw [← hx] at d0 d1 hro
                    obtain ⟨a, b⟩ := x
                    simp only [MX] at d0 d1 hro
                    obtain ⟨ha0, hab, hbM⟩ := hro
                    have ea : (R.getD k (0, 0)).1 = a := by rw [← hx]
                    have eb : (R.getD k (0, 0)).2 = b := by rw [← hx]
                    clear hx
                    have hbA := hb4.alloc hb4.size (.cells #[.int .u64 a, .int .u64 b] 30)
                    have hw : IntKind.u64.wrap (b + 1) = b + 1 := Go.IntWalk.u64_in _ (by omega)
                    by_cases h1 : a < l2 ∧ l2 ≤ b + 1
                    · obtain ⟨h1, h2⟩ := h1
                      have HK : Hid (Dn R lo low (k + 1) a) := Lib.hid (by
                        have h := Dn.go HP.out hcl (low0 := low) (k := k) (by rw [← HN.out]; exact hk) (low := l2) (by rw [HE1.out]; exact HD.out) (by rw [ea]; exact h1) (by rw [eb]; exact h2)
                        rw [HE1.out, ea] at h
                        exact h)
                      clear ea eb
                      have q1 : decide (a < l2) = true := decide_eq_true h1
                      go_wp2_with fail
                      clear d0 d1
                      go_roundw
                      case rel => exact ⟨a, k + 1, rfl, by go_num, by omega, ha0, by omega, HK, hbA⟩
                      case measure => simp [intOf]; omega
                    · have HK : Hid (Dn R lo low (k + 1) l2) := Lib.hid (HD.out.keep (by rw [ea, eb]; exact h1))
                      clear ea eb
                      by_cases h2 : a < l2
                      · have q1 : decide (a < l2) = true := decide_eq_true h2
                        have h3 : b + 1 < l2 := by omega
                        clear h1
                        go_wp2_with fail
                        clear d0 d1
                        go_roundw
                        case rel => exact ⟨l2, k + 1, rfl, by go_num, by omega, hl0, hl1, HK, hbA⟩
                        case measure => simp [intOf]; omega
                      · have q1 : decide (a < l2) = false := decide_eq_false h2
                        clear h1
                        go_wp2_with fail
                        clear d0 d1
                        go_roundw
                        case rel => exact ⟨l2, k + 1, rfl, by go_num, by omega, hl0, hl1, HK, hbA⟩
                        case measure => simp [intOf]; omega
                  · obtain rfl : n = k := by omega
                    have hrnd := Dn.round HP.out hcl (low0 := low) (low := l2) (q := q) (by rw [HE2.out]; exact hhi) (by rw [HE1.out]; exact hlo) (by rw [HE1.out, ← HN.out]; exact HQ.out) (by rw [HE1.out, ← HN.out]; exact HD.out)
                    rw [HE1.out, HE2.out, ← HN.out] at hrnd
                    obtain ⟨r1, r2, r3⟩ := hrnd
                    have HQ2 := Lib.hid r3
                    have hb5 := hb3.trans (hb4.mono hb3.size)
                    clear r3
                    go_wp2_with fail
                    go_roundw
                    case rel => exact ⟨l2, q + 1, rfl, by go_num, by omega, r2, r1, HQ2, hb5⟩
                    case measure => simp [intOf]; omega
              · obtain rfl : n = q := by omega
                have hend := Dn.end_ HP.out hcl (low := low) (by rw [HE2.out]; exact hhi) (by rw [HE1.out]; exact hlo) (by rw [HE1.out, ← HN.out]; exact HQ.out)
                rw [HE1.out] at hend
                subst hend
                have hlo2 : Lo L c low := by have := Lo.next HP.out.n HL.out.1; rw [HE1.out] at this; exact this
                have hcb : cb R low + (j + 1) ≤ n := by
                  obtain ⟨r, hr, e⟩ := HP.out.begins hcl
                  rw [HE1.out] at e
                  have hlB := HL.out.1.lo c (by omega)
                  rw [HE2.out] at hlB
                  have := cb_lt (R := R) hr e (show low < Bv by omega)
                  have := HL.out.2
                  omega
                have HL2 := Lib.hid (And.intro hlo2 hcb)
                have hT := rl_succ L c hcl
                rw [← HY.out] at hT
                have HT := Lib.hid hT
                have hO3 := own_same hO2 hb3
                obtain ⟨nn, hnn⟩ : ∃ nn, nn = L.length - (c + 1) := ⟨_, rfl⟩
                have hnn2 : L.length - c = nn + 1 := by omega
                rw [← hnn] at hO3
                clear hlo2 hcb hT c1 hO hO2 HQ
                have hnl : nn ≤ L.length := by omega
                clear hnn
                have HNN := Lib.hid hnn2
                clear hnn2
                go_wp2_with (at_builtin; refine wpList_append_any _ rfl _ _ 22 rfl w.heap.size 30 i0 _ 2 16 Try.underlying22 hi hz0 hz1 hz2 rfl (by decide) ov nn _ rfl (hO3.alloc _) (some ⟨wr.heap.size, 0, none⟩) 1 1 (pcs [(low, best)]) rfl (rdv_one (f := low) (t := best) (blk_new_at rfl)) (pcs_one _) (by unfold maxLen; omega) (by omega) (by have := hB3.size; simp; omega) (by simp) ?_; intro v4 w4 hown4 hgrow4 hat4)
                have hB5 := (hB3.alloc hB3.size (.cells #[.int .u64 low, .int .u64 best] 30)).grown hgrow4 (by have := hB3.size; simp; omega) (fun b hb => (hO3.lt b hb).1)
                clear hgrow4 hat4 hO3
                go_roundw
                case rel => exact ⟨_, j + 1, c, low, rfl, rfl, by go_num, by omega, by omega, by rw [HT.out, HNN.out, pcs_app, show L.length - (c + 1) = nn by have := HNN.out; omega]; exact hown4, HL2, by omega, by omega, hB5⟩
                case measure => simp [intOf]; omega
    · have hc0 : c = 0 := by
        refine HP.out.none_ HL.out.1 fun r hr hh => ?_
        have := cb_pos hr hh
        have := HL.out.2
        omega
      subst hc0
      rw [Nat.sub_zero, show L.reverse.take L.length = L.reverse from List.take_of_length_le (by simp)] at hO
      obtain ⟨A1, cp1, rfl, _⟩ := sl_of_own hO
      clear c1
      go_wp2_with fail
      go_ret
      exact ⟨_, rfl, by simpa using hO, hB⟩

end Go.Proofs.Ytcmkegkljappfaa
