/-
  Numbers one behind the other, read: what take of the reference does.
-/
import Derived.Test.YthmdbkefbbjfmaaIrgram
namespace Go.Proofs.Ythmdbkefbbjfmaa
open Go.RowKit
set_option linter.unusedVariables false
set_option linter.unusedSimpArgs false


/-- So many numbers in front, and what stands behind. -/
def takeL : Nat → List Int → Option (List Int × List Int)
  | 0, l => some ([], l)
  | k + 1, l => (takeL k l).bind fun p => (vtake p.2).map fun q => (p.1 ++ [q.1], q.2)
theorem takeL_none {k n : Nat} {l : List Int} (h : takeL k l = none) (hk : k ≤ n) : takeL n l = none := by
  induction n with
  | zero => obtain rfl : k = 0 := by omega
            exact h
  | succ n ih =>
    by_cases hkn : k = n + 1
    · rw [← hkn]; exact h
    · simp [takeL, ih (by omega)]
theorem takeL_step {k : Nat} {l q r : List Int} (h : takeL k l = some (q, r)) {v : Int} {r' : List Int} (hv : vtake r = some (v, r')) : takeL (k + 1) l = some (q ++ [v], r') := by
  simp [takeL, h, hv]
theorem takeL_stop {k : Nat} {l q r : List Int} (h : takeL k l = some (q, r)) (hv : vtake r = none) : takeL (k + 1) l = none := by
  simp [takeL, h, hv]
theorem takeL_ok {k : Nat} {l q r : List Int} (h : takeL k l = some (q, r)) (hk : BytesOk l) : BytesOk r ∧ r.length ≤ l.length ∧ q.length = k ∧ ∀ x ∈ q, 0 ≤ x ∧ x ≤ 4611686018427387903 := by
  induction k generalizing q r with
  | zero =>
    simp only [takeL, Option.some.injEq, Prod.mk.injEq] at h
    obtain ⟨rfl, rfl⟩ := h
    exact ⟨hk, Nat.le_refl _, rfl, fun x hx => by simp at hx⟩
  | succ k ih =>
    rcases hp : takeL k l with _ | ⟨q0, r0⟩
    · simp [takeL, hp] at h
    · obtain ⟨h1, h2, h3, h4⟩ := ih hp
      rcases hv : vtake r0 with _ | ⟨v, r1⟩
      · rw [takeL_stop hp hv] at h; cases h
      · rw [takeL_step hp hv] at h
        simp only [Option.some.injEq, Prod.mk.injEq] at h
        obtain ⟨rfl, rfl⟩ := h
        obtain ⟨b1, b2, b3, b4⟩ := takeR_ok h1
        rw [takeR_some hv] at b1 b2 b3 b4
        refine ⟨b1, Nat.le_trans b2 h2, by simp [h3], fun x hx => ?_⟩
        rcases List.mem_append.1 hx with hx | hx
        · exact h4 x hx
        · simp at hx; subst hx; exact ⟨b3, b4⟩
theorem infoN : (Try.prog.info? 22).map (fun i => (i.zero, i.size, i.bytes)) = some (some (.int .u64 0), 1, 8) := by kernel_rfl
theorem own_ne {w : World} {b1 b2 : Nat} {e1 e2 : TypeId} {s1 s2 n1 n2 : Nat} {v1 v2 : Value} {x1 x2 : List Value} (h1 : w.ownsRow b1 e1 s1 v1 n1 x1) (h2 : w.ownsRow b2 e2 s2 v2 n2 x2) (hne : e1 ≠ e2) : v2.ownBlock = none ∨ v1.ownBlock ≠ v2.ownBlock := by
  rcases h2.2 with ⟨rfl, _⟩ | ⟨g, cap, cur, rfl, _, hg, _⟩
  · exact .inl rfl
  · exact .inr (own_blk_ne h1 (t := e2) (cs := cur) hg hne)
/-- What is left, at a later world: as it came in, or a row of the call's own. -/
def RestAt (k : Nat) (w0 w : World) (V : Value) (r : List Int) : Prop := (k = 0 ∧ Rd w0 .u8 V r) ∨ w.ownsRow w0.heap.size 5 1 V r.length (r.map (Value.int .u8))
theorem RestAt.rd {k : Nat} {w0 w : World} {V : Value} {r : List Int} (h : RestAt k w0 w V r) (hB : Below w0.heap.size w0 w) : Rd w .u8 V r := by
  rcases h with h | h
  · exact h.2.below hB
  · exact rd_of_own h
theorem RestAt.row {k : Nat} {w0 w w' : World} {V v : Value} {r : List Int} {b n : Nat} {xs : List Value} (h : RestAt k w0 w V r) (ho : w.ownsRow b 22 1 v n xs) (hg : w.grownBy w' v.ownBlock) : RestAt k w0 w' V r := by
  rcases h with h | h
  · exact .inl h
  · exact .inr (own_grown h hg ((own_ne h ho (by decide)).imp id id))
theorem RestAt.alloc {k : Nat} {w0 w : World} {V : Value} {r : List Int} (h : RestAt k w0 w V r) (o : Obj) : RestAt k w0 (w.alloc o) V r := h.imp id fun h => h.alloc o
set_option maxHeartbeats 1000000 in
set_option maxRecDepth 100000 in
theorem rtakeN_any (V : Value) (l : List Int) (n : Nat) (w : World) (hr : Rd w .u8 V l) (hk : BytesOk l) (hl : l.length ≤ 1000000) (hn : n ≤ 10) :
    Calls Try.prog 35 #[V, .int .i64 n] w fun e w' => (takeL n l = none ∧ e = .returned (.tuple #[.slice none 0 0, .slice none 0 0, .int .i64 2]) ∧ Below w.heap.size w w') ∨
      (∃ q r v1 v2, takeL n l = some (q, r) ∧ e = .returned (.tuple #[v1, v2, .int .i64 0]) ∧ w'.ownsRow w.heap.size 22 1 v1 q.length (q.map (Value.int .u64)) ∧ Rd w' .u8 v2 r ∧ (n ≠ 0 → w'.ownsRow w.heap.size 5 1 v2 r.length (r.map (Value.int .u8))) ∧ Below w.heap.size w w') := by
  obtain ⟨i0, hi0, hz0, hz1, hz2⟩ := info_parts infoN
  have H0 : RestAt 0 w w V l := .inl ⟨rfl, hr⟩
  have hT : takeL 0 l = some ([], l) := rfl
  have HT := Lib.hid hT
  clear hr hT
  obtain ⟨A, cap, rfl⟩ := (H0.rd (Below.refl _ _)).form
  go_enter Try.func35, Try.ntmps35
  go_wp2_with fail
  go_loopw [0, 7, 12] (fun p o i wr => ∃ (pv ov : Value) (k : Nat) (q r : List Int), pv = p ∧ ov = o ∧ k ≤ n ∧ i = .int .i64 k ∧ Hid (takeL k l = some (q, r)) ∧ RestAt k w wr pv r ∧ wr.ownsRow w.heap.size 22 1 ov q.length (q.map (Value.int .u64)) ∧ Below w.heap.size w wr) (fun _ _ i _ => n - (intOf i).toNat)
  case atStart => exact ⟨_, _, 0, [], l, rfl, rfl, Nat.zero_le _, rfl, HT, H0, World.ownsRow_nil _ _ _ _, Below.refl _ _⟩
  case round =>
    clear H0 HT
    obtain ⟨pv, ov, k, q, r, rfl, rfl, hkn, rfl, HT, hR, ho, hB⟩ := hrel
    obtain ⟨b1, b2, b3, b4⟩ := takeL_ok HT.out hk
    have hr := hR.rd hB
    obtain ⟨A1, c1, rfl⟩ := hr.form
    have HR := Lib.hid hr
    have hrl : r.length ≤ 1000000 := by omega
    have hql : q.length ≤ 10 := by omega
    clear hr b3
    by_cases hlt : k < n
    · rcases hv : vtake r with _ | ⟨v, r'⟩
      · have HF : Hid (takeL n l = none) := Lib.hid (takeL_none (takeL_stop HT.out hv) (by omega))
        have HV := Lib.hid hv
        clear hv
        go_wp2_with fail
        refine (rtake_none _ r _ HR.out b1 HV.out).mono ?_
        rintro e w1 ⟨rfl, hb1⟩
        go_wp2_with fail
        go_ret3
        exact .inl ⟨HF.out, rfl, hB.trans (hb1.mono hB.size)⟩
      · have HT2 : Hid (takeL (k + 1) l = some (q ++ [v], r')) := Lib.hid (takeL_step HT.out hv)
        have HV := Lib.hid hv
        clear hv
        go_wp2_with fail
        refine (rtake_some _ r v r' _ HR.out b1 (by omega) HV.out).mono ?_
        rintro e w1 ⟨v1, rfl, ho1, hb1⟩
        have hB1 := hB.trans (hb1.mono hB.size)
        have hR1 : RestAt (k + 1) w w1 v1 r' := .inr (own_base ho1 hB.size)
        have ho2 := own_same ho hb1
        obtain ⟨A2, c2, rfl⟩ := (rd_of_own ho1).form
        clear ho ho1 hb1 hR HR
        go_wp2_with (at_builtin; refine wpList_append_lies _ rfl _ _ 77 rfl w.heap.size 22 i0 _ 1 8 Try.underlying77 hi0 hz0 hz1 hz2 rfl (by decide) ov q.length (q.map (Value.int .u64)) rfl (ho2.alloc _) ⟨w1.heap.size, 0, none⟩ 1 1 [.int .u64 v] rfl rfl (World.news_of_block (cs := #[.int .u64 v]) (t := 22) (fr := (0, 0)) (heap_alloc_new w1 _)) (by simp [Value.oneCell']) (by decide) (by unfold maxLen; omega) (by omega) (by simp; have := hB1.size; omega) (w1.heap.size + 1) (by simp) ?_; intro g4 k4 w4 hown4 hgrow4 hat4 hlt4)
        have hB4 := (hB1.alloc hB1.size (.cells #[.int .u64 v] 22)).grown hgrow4 (by simp; have := hB1.size; omega) (fun b hb => (ho2.lt b hb).1)
        have hR4 := (hR1.alloc (.cells #[.int .u64 v] 22)).row (ho2.alloc _) hgrow4
        go_roundw
        case rel => exact ⟨_, _, k + 1, q ++ [v], r', rfl, rfl, by omega, by go_num, HT2, hR4, by rw [List.length_append, List.map_append]; exact hown4, hB4⟩
        case measure => simp [intOf]; omega
    · have hkk : k = n := by omega
      have HF : Hid (takeL n l = some (q, r)) := Lib.hid (by rw [← hkk]; exact HT.out)
      obtain ⟨A2, c2, hov⟩ : ∃ A2 c2, ov = .slice A2 q.length c2 := (rd_of_own (k := .u64) ho).form
      subst hov
      have HRR := Lib.hid hR
      clear HT hkk hR
      go_wp2_with fail
      go_ret3
      exact .inr ⟨q, r, _, _, HF.out, rfl, ho, HR.out, fun h0 => HRR.out.elim (fun h => absurd h.1 (by omega)) id, hB⟩

end Go.Proofs.Ythmdbkefbbjfmaa
