/-
  What the functions of package pace, and those of the reference, do to a meter, each once.
-/
import Derived.Test.YtlnenndlenckjaaClock
namespace Go.Proofs.Ytlnenndlenckjaa
open Go.RowKit
set_option linter.unusedVariables false
set_option linter.unusedSimpArgs false


/-- A meter: what may be, the threshold, what is away, since when, does it recover. -/
structure Mt where
  may : Int
  lim : Int
  away : Int
  since : Int
  recov : Bool
structure MtOk (m : Mt) : Prop where
  m0 : 2400 ≤ m.may
  m1 : m.may ≤ 1073741824
  l0 : 0 ≤ m.lim
  a0 : 0 ≤ m.away
  a1 : m.away ≤ 1073741824
  s0 : 0 ≤ m.since
def mt0 : Mt := ⟨12000, 4611686018427387903, 0, 0, false⟩
theorem mt0_ok : MtOk mt0 := ⟨by decide, by decide, by decide, by decide, by decide, by decide⟩
def capM (x : Int) : Int := if 1073741824 < x then 1073741824 else x
def half (x : Int) : Int := if x / 2 < 2400 then 2400 else x / 2
def more (m : Mt) (n : Int) : Int := if m.may < m.lim then m.may + n else m.may + 1200 * n / m.may
/-- What a call does: 0 Send, 1 Acked, 2 Lost, else Gone: the error, and the meter behind it. -/
def goM (k : Int) (m : Mt) (n sent now : Int) : Mt :=
  if m.recov = true ∧ sent ≤ m.since then ⟨m.may, m.lim, m.away - n, m.since, m.recov⟩
  else if k = 1 then ⟨capM (more m n), m.lim, m.away - n, m.since, m.recov⟩
  else if k = 2 then ⟨half m.may, half m.may, m.away - n, now, true⟩
  else ⟨m.may, m.lim, m.away - n, m.since, m.recov⟩
def errM (k : Int) (m : Mt) (n : Int) : Int :=
  if n < 0 ∨ 1200 < n then 1 else if k = 0 then (if 1073741824 < m.away + n then 8 else 0) else if m.away < n then 6 else 0
def stepM (k : Int) (m : Mt) (n sent now : Int) : Mt :=
  if errM k m n ≠ 0 then m else if k = 0 then ⟨m.may, m.lim, m.away + n, m.since, m.recov⟩ else goM k m n sent now
theorem errM_ok {k : Int} {m : Mt} {n : Int} (h : errM k m n = 0) : 0 ≤ n ∧ n ≤ 1200 ∧ (k = 0 → m.away + n ≤ 1073741824) ∧ (k ≠ 0 → n ≤ m.away) := by
  unfold errM at h
  by_cases h1 : n < 0 ∨ 1200 < n
  · rw [if_pos h1] at h; omega
  · rw [if_neg h1] at h
    by_cases h2 : k = 0
    · rw [if_pos h2] at h
      by_cases h3 : 1073741824 < m.away + n
      · rw [if_pos h3] at h; omega
      · exact ⟨by omega, by omega, fun _ => by omega, fun h => absurd h2 h⟩
    · rw [if_neg h2] at h
      by_cases h3 : m.away < n
      · rw [if_pos h3] at h; omega
      · exact ⟨by omega, by omega, fun h => absurd h h2, fun _ => by omega⟩
theorem half_ok (x : Int) (h : 2400 ≤ x ∧ x ≤ 1073741824) : 2400 ≤ half x ∧ half x ≤ 1073741824 := by unfold half; split <;> omega
theorem more_ok (m : Mt) (h : MtOk m) (n : Int) (h0 : 0 ≤ n ∧ n ≤ 1200) : 2400 ≤ more m n ∧ more m n ≤ 1075241824 := by
  have h1 := h.m0
  have h2 := h.m1
  have h3 : 0 ≤ 1200 * n / m.may := Int.ediv_nonneg (by omega) (by omega)
  have h4 : 1200 * n / m.may ≤ 1200 * n := Int.ediv_le_self _ (by omega)
  unfold more
  split <;> omega
theorem capM_ok (x : Int) (h : 2400 ≤ x) : 2400 ≤ capM x ∧ capM x ≤ 1073741824 := by unfold capM; split <;> omega
theorem goM_ok (k : Int) (m : Mt) (h : MtOk m) (n sent now : Int) (h0 : 0 ≤ n ∧ n ≤ 1200) (h1 : n ≤ m.away) (hw : 0 ≤ now) : MtOk (goM k m n sent now) := by
  have ha := h.a1
  have hm := more_ok m h n h0
  have hc := capM_ok _ hm.1
  have hh := half_ok m.may ⟨h.m0, h.m1⟩
  unfold goM
  split
  · exact ⟨h.m0, h.m1, h.l0, by show 0 ≤ m.away - n; omega, by show m.away - n ≤ _; omega, h.s0⟩
  · split
    · exact ⟨hc.1, hc.2, h.l0, by show 0 ≤ m.away - n; omega, by show m.away - n ≤ _; omega, h.s0⟩
    · split
      · exact ⟨hh.1, hh.2, by show 0 ≤ half m.may; omega, by show 0 ≤ m.away - n; omega, by show m.away - n ≤ _; omega, hw⟩
      · exact ⟨h.m0, h.m1, h.l0, by show 0 ≤ m.away - n; omega, by show m.away - n ≤ _; omega, h.s0⟩
theorem stepM_ok (k : Int) (m : Mt) (h : MtOk m) (n sent now : Int) (hw : 0 ≤ now) : MtOk (stepM k m n sent now) := by
  have ha := h.a0
  unfold stepM
  by_cases he : errM k m n ≠ 0
  · rw [if_pos he]; exact h
  · rw [if_neg he]
    obtain ⟨h1, h2, h3, h4⟩ := errM_ok (by simpa using he : errM k m n = 0)
    by_cases hk : k = 0
    · rw [if_pos hk]
      have := h3 hk
      exact ⟨h.m0, h.m1, h.l0, by show 0 ≤ m.away + n; omega, this, h.s0⟩
    · rw [if_neg hk]
      exact goM_ok k m h n sent now ⟨h1, h2⟩ (h4 hk) hw
def mtV (m : Mt) : Array Value := #[.int .i64 m.may, .int .u64 m.lim, .int .i64 m.away, .int .u64 m.since, .bool m.recov]
/-- The meter at block g; the reference's. -/
def Mtr (w : World) (g : Nat) (m : Mt) : Prop := Blk w g 64 (mtV m)
def RMt (w : World) (g : Nat) (m : Mt) : Prop := Blk w g 58 (mtV m)

theorem newMeter_any (w : World) : Calls Try.prog 17 #[] w fun e w' => ∃ g, e = .returned (.pointer (some ⟨g, 0, none⟩)) ∧ Mtr w' g mt0 ∧ w.heap.size ≤ g ∧ Below w.heap.size w w' := by
  go_enter Try.func17, Try.ntmps17
  go_wp2_with fail
  go_ret
  exact ⟨_, rfl, Blk.new _ _ _, Nat.le_refl _, (Below.refl _ _).alloc (Nat.le_refl _) _⟩

theorem rnew_any (w : World) : Calls Try.prog 21 #[] w fun e w' => ∃ g, e = .returned (.pointer (some ⟨g, 0, none⟩)) ∧ RMt w' g mt0 ∧ w.heap.size ≤ g ∧ Below w.heap.size w w' := by
  go_enter Try.func21, Try.ntmps21
  go_wp2_with fail
  go_ret
  exact ⟨_, rfl, Blk.new _ _ _, Nat.le_refl _, (Below.refl _ _).alloc (Nat.le_refl _) _⟩

def chk (away n : Int) (aw : Bool) : Int := if n < 0 ∨ 1200 < n then 1 else if aw = true ∧ away < n then 6 else 0
theorem check_nil (n : Int) (aw : Bool) (w : World) : Calls Try.prog 26 #[.pointer none, .int .i64 n, .bool aw] w fun e w' => e = .returned (.int .i64 6) ∧ w = w' := by
  go_enter Try.func26, Try.ntmps26
  go_wp2_with fail
  go_ret
  exact ⟨rfl, rfl⟩
theorem check_any (g : Nat) (may lim away since : Int) (rc : Bool) (n : Int) (w : World) (aw : Bool) (hb : Mtr w g ⟨may, lim, away, since, rc⟩) : Calls Try.prog 26 #[.pointer (some ⟨g, 0, none⟩), .int .i64 n, .bool aw] w fun e w' => e = .returned (.int .i64 (chk away n aw)) ∧ w = w' := by
  unfold Mtr mtV at hb
  have c0 : w.cell? ⟨g, 0, none⟩ = some (.int .i64 may) := hb.cell 0
  have c1 : w.cell? ⟨g, 1, none⟩ = some (.int .u64 lim) := hb.cell 1
  have c2 : w.cell? ⟨g, 2, none⟩ = some (.int .i64 away) := hb.cell 2
  have c3 : w.cell? ⟨g, 3, none⟩ = some (.int .u64 since) := hb.cell 3
  have c4 : w.cell? ⟨g, 4, none⟩ = some (.bool rc) := hb.cell 4
  unfold chk
  by_cases h1 : n < 0
  · rw [if_pos (.inl h1)]
    go_enter Try.func26, Try.ntmps26
    go_wp2_with fail
    go_ret
    exact ⟨rfl, rfl⟩
  · by_cases h2 : 1200 < n
    · rw [if_pos (.inr h2)]
      go_enter Try.func26, Try.ntmps26
      go_wp2_with fail
      go_ret
      exact ⟨rfl, rfl⟩
    · rw [if_neg (by omega)]
      cases aw with
      | false => (rw [if_neg (by simp)]; go_enter Try.func26, Try.ntmps26; go_wp2_with fail; go_ret; exact ⟨rfl, rfl⟩)
      | true =>
        by_cases h3 : away < n
        · rw [if_pos ⟨rfl, h3⟩]
          go_enter Try.func26, Try.ntmps26
          go_wp2_with fail
          go_ret
          exact ⟨rfl, rfl⟩
        · rw [if_neg (by omega)]
          go_enter Try.func26, Try.ntmps26
          go_wp2_with fail
          go_ret
          exact ⟨rfl, rfl⟩

def laterB (since : Int) (rc : Bool) (sent : Int) : Bool := !(rc && decide (sent ≤ since))
theorem later_any (g : Nat) (may lim away since : Int) (rc : Bool) (sent : Int) (w : World) (hb : Mtr w g ⟨may, lim, away, since, rc⟩) : Calls Try.prog 27 #[.pointer (some ⟨g, 0, none⟩), .int .u64 sent] w fun e w' => e = .returned (.bool (laterB since rc sent)) ∧ w = w' := by
  unfold Mtr mtV at hb
  have c0 : w.cell? ⟨g, 0, none⟩ = some (.int .i64 may) := hb.cell 0
  have c1 : w.cell? ⟨g, 1, none⟩ = some (.int .u64 lim) := hb.cell 1
  have c2 : w.cell? ⟨g, 2, none⟩ = some (.int .i64 away) := hb.cell 2
  have c3 : w.cell? ⟨g, 3, none⟩ = some (.int .u64 since) := hb.cell 3
  have c4 : w.cell? ⟨g, 4, none⟩ = some (.bool rc) := hb.cell 4
  unfold laterB
  cases rc with
  | false => (go_enter Try.func27, Try.ntmps27; go_wp2_with fail; go_ret; exact ⟨rfl, rfl⟩)
  | true =>
    by_cases h : sent ≤ since
    · have hd : decide (sent ≤ since) = true := by simpa using h
      have hd2 : decide (since < sent) = false := by simp; omega
      rw [hd]
      go_enter Try.func27, Try.ntmps27
      go_wp2_with fail
      go_ret
      exact ⟨rfl, rfl⟩
    · have hd : decide (sent ≤ since) = false := by simpa using h
      have hd2 : decide (since < sent) = true := by simp; omega
      rw [hd]
      go_enter Try.func27, Try.ntmps27
      go_wp2_with fail
      go_ret
      exact ⟨rfl, rfl⟩

theorem gone_nil (n : Int) (w : World) : Calls Try.prog 23 #[.pointer none, .int .i64 n] w fun e w' => e = .returned (.int .i64 6) ∧ w = w' := by
  go_enter Try.func23, Try.ntmps23
  go_wp2_with fail
  refine (check_nil n true _).mono ?_
  rintro e w1 ⟨rfl, rfl⟩
  go_wp2_with fail
  go_ret
  exact ⟨rfl, rfl⟩
theorem gone_no (g : Nat) (may lim away since : Int) (rc : Bool) (n : Int) (w : World) (r : Int) (hb : Mtr w g ⟨may, lim, away, since, rc⟩) (hr : chk away n true = r) (h0 : r ≠ 0) : Calls Try.prog 23 #[.pointer (some ⟨g, 0, none⟩), .int .i64 n] w fun e w' => e = .returned (.int .i64 r) ∧ w = w' := by
  have k := fun W h => check_any g may lim away since rc n W true h
  rw [hr] at k
  have hr0 : (r == 0) = false := by simpa using h0
  clear hr h0
  go_enter Try.func23, Try.ntmps23
  go_wp2_with fail
  refine (k _ hb).mono ?_
  rintro e w1 ⟨rfl, rfl⟩
  clear k
  go_wp2_with fail
  go_ret
  exact ⟨rfl, rfl⟩
theorem gone_yes (g : Nat) (may lim away since : Int) (rc : Bool) (n : Int) (w : World) (hb : Mtr w g ⟨may, lim, away, since, rc⟩) (h0 : 0 ≤ n ∧ n ≤ 1200) (h1 : n ≤ away) (ha : away ≤ 1073741824) : Calls Try.prog 23 #[.pointer (some ⟨g, 0, none⟩), .int .i64 n] w fun e w' => e = .returned (.int .i64 0) ∧ Mtr w' g ⟨may, lim, away - n, since, rc⟩ ∧ w.grownBy w' (some g) := by
  have k := fun W h => check_any g may lim away since rc n W true h
  have hr : chk away n true = 0 := by unfold chk; rw [if_neg (by omega), if_neg (by omega)]
  rw [hr] at k
  clear hr
  go_enter Try.func23, Try.ntmps23
  go_wp2_with fail
  refine (k _ hb).mono ?_
  rintro e w1 ⟨rfl, rfl⟩
  clear k
  unfold Mtr mtV at hb
  have c0 : w.cell? ⟨g, 0, none⟩ = some (.int .i64 may) := hb.cell 0
  have f0 := hb.frozen 0
  have c1 : w.cell? ⟨g, 1, none⟩ = some (.int .u64 lim) := hb.cell 1
  have f1 := hb.frozen 1
  have c2 : w.cell? ⟨g, 2, none⟩ = some (.int .i64 away) := hb.cell 2
  have f2 := hb.frozen 2
  have c3 : w.cell? ⟨g, 3, none⟩ = some (.int .u64 since) := hb.cell 3
  have f3 := hb.frozen 3
  have c4 : w.cell? ⟨g, 4, none⟩ = some (.bool rc) := hb.cell 4
  have f4 := hb.frozen 4
  go_wp2_with fail
  go_ret
  exact ⟨rfl, hb.set_ 2 _, grown_set (grown_refl _ _) _ _⟩

theorem send_nil (n : Int) (w : World) : Calls Try.prog 18 #[.pointer none, .int .i64 n] w fun e w' => e = .returned (.int .i64 6) ∧ w = w' := by
  go_enter Try.func18, Try.ntmps18
  go_wp2_with fail
  refine (check_nil n false _).mono ?_
  rintro e w1 ⟨rfl, rfl⟩
  go_wp2_with fail
  go_ret
  exact ⟨rfl, rfl⟩
theorem send_no (g : Nat) (may lim away since : Int) (rc : Bool) (n : Int) (w : World) (hb : Mtr w g ⟨may, lim, away, since, rc⟩) (h0 : n < 0 ∨ 1200 < n) : Calls Try.prog 18 #[.pointer (some ⟨g, 0, none⟩), .int .i64 n] w fun e w' => e = .returned (.int .i64 1) ∧ w = w' := by
  have k := fun W h => check_any g may lim away since rc n W false h
  have hr : chk away n false = 1 := by unfold chk; rw [if_pos h0]
  rw [hr] at k
  clear hr h0
  go_enter Try.func18, Try.ntmps18
  go_wp2_with fail
  refine (k _ hb).mono ?_
  rintro e w1 ⟨rfl, rfl⟩
  clear k
  go_wp2_with fail
  go_ret
  exact ⟨rfl, rfl⟩
theorem send_full (g : Nat) (may lim away since : Int) (rc : Bool) (n : Int) (w : World) (hb : Mtr w g ⟨may, lim, away, since, rc⟩) (h0 : 0 ≤ n ∧ n ≤ 1200) (h1 : 1073741824 < away + n) (ha : 0 ≤ away ∧ away ≤ 1073741824) : Calls Try.prog 18 #[.pointer (some ⟨g, 0, none⟩), .int .i64 n] w fun e w' => e = .returned (.int .i64 8) ∧ w = w' := by
  have k := fun W h => check_any g may lim away since rc n W false h
  have hr : chk away n false = 0 := by unfold chk; rw [if_neg (by omega), if_neg (by simp)]
  rw [hr] at k
  clear hr
  go_enter Try.func18, Try.ntmps18
  go_wp2_with fail
  refine (k _ hb).mono ?_
  rintro e w1 ⟨rfl, rfl⟩
  clear k
  unfold Mtr mtV at hb
  have c0 : w.cell? ⟨g, 0, none⟩ = some (.int .i64 may) := hb.cell 0
  have f0 := hb.frozen 0
  have c1 : w.cell? ⟨g, 1, none⟩ = some (.int .u64 lim) := hb.cell 1
  have f1 := hb.frozen 1
  have c2 : w.cell? ⟨g, 2, none⟩ = some (.int .i64 away) := hb.cell 2
  have f2 := hb.frozen 2
  have c3 : w.cell? ⟨g, 3, none⟩ = some (.int .u64 since) := hb.cell 3
  have f3 := hb.frozen 3
  have c4 : w.cell? ⟨g, 4, none⟩ = some (.bool rc) := hb.cell 4
  have f4 := hb.frozen 4
  go_wp2_with fail
  go_ret
  exact ⟨rfl, rfl⟩
theorem send_yes (g : Nat) (may lim away since : Int) (rc : Bool) (n : Int) (w : World) (hb : Mtr w g ⟨may, lim, away, since, rc⟩) (h0 : 0 ≤ n ∧ n ≤ 1200) (h1 : away + n ≤ 1073741824) (ha : 0 ≤ away ∧ away ≤ 1073741824) : Calls Try.prog 18 #[.pointer (some ⟨g, 0, none⟩), .int .i64 n] w fun e w' => e = .returned (.int .i64 0) ∧ Mtr w' g ⟨may, lim, away + n, since, rc⟩ ∧ w.grownBy w' (some g) := by
  have k := fun W h => check_any g may lim away since rc n W false h
  have hr : chk away n false = 0 := by unfold chk; rw [if_neg (by omega), if_neg (by simp)]
  rw [hr] at k
  clear hr
  go_enter Try.func18, Try.ntmps18
  go_wp2_with fail
  refine (k _ hb).mono ?_
  rintro e w1 ⟨rfl, rfl⟩
  clear k
  unfold Mtr mtV at hb
  have c0 : w.cell? ⟨g, 0, none⟩ = some (.int .i64 may) := hb.cell 0
  have f0 := hb.frozen 0
  have c1 : w.cell? ⟨g, 1, none⟩ = some (.int .u64 lim) := hb.cell 1
  have f1 := hb.frozen 1
  have c2 : w.cell? ⟨g, 2, none⟩ = some (.int .i64 away) := hb.cell 2
  have f2 := hb.frozen 2
  have c3 : w.cell? ⟨g, 3, none⟩ = some (.int .u64 since) := hb.cell 3
  have f3 := hb.frozen 3
  have c4 : w.cell? ⟨g, 4, none⟩ = some (.bool rc) := hb.cell 4
  have f4 := hb.frozen 4
  go_wp2_with fail
  go_ret
  exact ⟨rfl, hb.set_ 2 _, grown_set (grown_refl _ _) _ _⟩

end Go.Proofs.Ytlnenndlenckjaa
