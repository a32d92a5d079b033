/-
  The reader of a frame: so many bytes; a Stream's fields.
-/
import Derived.Test.YtbigbnfllkacoaaDoorFread
namespace Go.Proofs.YtbigbnfllkacoaaDoor
open Go.RowKit
set_option linter.unusedVariables false
set_option linter.unusedSimpArgs false

theorem own_b0 {w : World} {base base' : Nat} {e : TypeId} {size n : Nat} {v : Value} {xs : List Value} (h : w.ownsRow base e size v n xs) (hb : base' ≤ base) : w.ownsRow base' e size v n xs := own_base h hb

set_option maxHeartbeats 8000000 in
set_option maxRecDepth 100000 in
theorem rnum_own (rb : Nat) (v : Value) (l : List Int) (n : Int) (rest : List Int) (w : World) (hB : Blk w rb 70 #[v, .int .i64 0]) (hr : w.ownsRow 0 5 1 v l.length (l.map (Value.int .u8))) (hk : BytesOk l) (hl : l.length ≤ 1000000) (ht : vtake l = some (n, rest)) :
    Calls Tryd.prog 34 #[.pointer (some ⟨rb, 0, none⟩)] w fun e w' => e = .returned (.int .u64 n) ∧ ∃ v', Blk w' rb 70 #[v', .int .i64 0] ∧ w'.ownsRow 0 5 1 v' rest.length (rest.map (Value.int .u8)) ∧ w.grownBy w' (some rb) := by
  have hr1 := rd_of_own (k := .u8) hr
  have c0 : w.cell? ⟨rb, 0, none⟩ = some v := hB.cell 0
  obtain ⟨A, cap, rfl⟩ := hr1.form
  go_enter Tryd.func34, Tryd.ntmps34
  go_wp2_with fail
  (with_reducible refine (take_some _ l n rest w hr1 hk (by omega) ht).mono ?_)
  rintro e w1 ⟨v', rfl, ho, hb⟩
  have hB1 := hB.same hb
  obtain ⟨A', c', rfl, _⟩ := sl_of_own ho
  have d0 : w1.cell? ⟨rb, 0, none⟩ = some (.slice A l.length cap) := hB1.cell 0
  have d1 : w1.cell? ⟨rb, 1, none⟩ = some (.int .i64 0) := hB1.cell 1
  have f0 := hB1.frozen 0
  go_wp2_with fail
  go_ret
  have hne := own_blk_ne ho hB1 (by decide)
  exact ⟨rfl, .slice A' rest.length c', by simpa using hB1.set_ 0 (.slice A' rest.length c'), own_b0 (own_far ho hne _) (Nat.zero_le _), grown_set (grown_below hb (some rb)) 0 _⟩
set_option maxHeartbeats 8000000 in
set_option maxRecDepth 100000 in
theorem rtk_all (rb : Nat) (v : Value) (l : List Int) (w : World) (hB : Blk w rb 70 #[v, .int .i64 0]) (hr : w.ownsRow 0 5 1 v l.length (l.map (Value.int .u8))) (hl : l.length ≤ 1000000) :
    Calls Tryd.prog 48 #[.pointer (some ⟨rb, 0, none⟩), .int .u64 l.length] w fun e w' => ∃ D, e = .returned D ∧ w'.ownsRow 0 5 1 D l.length (l.map (Value.int .u8)) ∧ (∃ v', Blk w' rb 70 #[v', .int .i64 0] ∧ Rd w' .u8 v' []) ∧ w.grownBy w' (some rb) := by
  have hr1 := rd_of_own (k := .u8) hr
  have hlw : IntKind.u64.wrap (l.length : Int) = (l.length : Int) := Go.IntWalk.u64_in _ (by omega)
  have hz : (0 : Nat) ≤ maxLen := by decide
  rcases hr.2 with ⟨rfl, h0⟩ | ⟨g, cap, cur, rfl, _, _, hn, hc, _⟩
  · obtain rfl : l = [] := List.eq_nil_of_length_eq_zero h0
    have c0 : w.cell? ⟨rb, 0, none⟩ = some (.slice none 0 0) := hB.cell 0
    have c1 : w.cell? ⟨rb, 1, none⟩ = some (.int .i64 0) := hB.cell 1
    go_enter Tryd.func48, Tryd.ntmps48
    go_wp2_with fail
    (with_reducible refine (clone_any _ [] w hr1 (by decide)).mono ?_)
    rintro e w1 ⟨D, rfl, ho, hb⟩
    have hB1 := hB.same hb
    obtain ⟨AD, cD, rfl, _⟩ := sl_of_own ho
    have d0 : w1.cell? ⟨rb, 0, none⟩ = some (.slice none 0 0) := hB1.cell 0
    have f0 := hB1.frozen 0
    go_wp2_with fail
    go_ret
    have hne := own_blk_ne ho hB1 (by decide)
    exact ⟨_, rfl, own_b0 (own_far ho hne _) (Nat.zero_le _), ⟨.slice none 0 0, by simpa using hB1.set_ 0 (.slice none 0 0), Rd.emp _ _ _ _ (by omega)⟩, grown_set (grown_below hb (some rb)) 0 _⟩
  · have hcm : cap ≤ 9223372036854775807 := by unfold maxLen at hc; omega
    have hlI : (l.length : Int) ≤ (cap : Int) := by omega
    by_cases hlt : l.length < cap
    · have hltI : (l.length : Int) < (cap : Int) := by omega
      have c0 : w.cell? ⟨rb, 0, none⟩ = some (.slice (some ⟨g, 0, none⟩) l.length cap) := hB.cell 0
      have c1 : w.cell? ⟨rb, 1, none⟩ = some (.int .i64 0) := hB.cell 1
      go_enter Tryd.func48, Tryd.ntmps48
      go_wp2_with fail
      (with_reducible refine (clone_any _ l w hr1 (by omega)).mono ?_)
      rintro e w1 ⟨D, rfl, ho, hb⟩
      have hB1 := hB.same hb
      obtain ⟨AD, cD, rfl, _⟩ := sl_of_own ho
      have d0 : w1.cell? ⟨rb, 0, none⟩ = some (.slice (some ⟨g, 0, none⟩) l.length cap) := hB1.cell 0
      have f0 := hB1.frozen 0
      go_wp2_with fail
      go_ret
      have hne := own_blk_ne ho hB1 (by decide)
      exact ⟨_, rfl, own_b0 (own_far ho hne _) (Nat.zero_le _), ⟨.slice (some ⟨g, l.length, none⟩) 0 (cap - l.length), by simpa using hB1.set_ 0 (.slice (some ⟨g, l.length, none⟩) 0 (cap - l.length)), Rd.emp _ _ _ _ (by omega)⟩, grown_set (grown_below hb (some rb)) 0 _⟩
    · obtain rfl : cap = l.length := by omega
      have c0 : w.cell? ⟨rb, 0, none⟩ = some (.slice (some ⟨g, 0, none⟩) l.length l.length) := hB.cell 0
      have c1 : w.cell? ⟨rb, 1, none⟩ = some (.int .i64 0) := hB.cell 1
      go_enter Tryd.func48, Tryd.ntmps48
      go_wp2_with fail
      (with_reducible refine (clone_any _ l w hr1 (by omega)).mono ?_)
      rintro e w1 ⟨D, rfl, ho, hb⟩
      have hB1 := hB.same hb
      obtain ⟨AD, cD, rfl, _⟩ := sl_of_own ho
      have d0 : w1.cell? ⟨rb, 0, none⟩ = some (.slice (some ⟨g, 0, none⟩) l.length l.length) := hB1.cell 0
      have f0 := hB1.frozen 0
      go_wp2_with fail
      go_ret
      have hne := own_blk_ne ho hB1 (by decide)
      exact ⟨_, rfl, own_b0 (own_far ho hne _) (Nat.zero_le _), ⟨.slice (some ⟨g, 0, none⟩) 0 0, by simpa using hB1.set_ 0 (.slice (some ⟨g, 0, none⟩) 0 0), Rd.emp _ _ _ _ (by omega)⟩, grown_set (grown_below hb (some rb)) 0 _⟩

end Go.Proofs.YtbigbnfllkacoaaDoor
