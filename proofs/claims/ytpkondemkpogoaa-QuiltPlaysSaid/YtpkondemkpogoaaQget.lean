/-
  What reads a quilt: its ends, what was read, what waits, what is ready; may a piece lie there. No condition.
-/
import Derived.Test.YtpkondemkpogoaaQmem
namespace Go.Proofs.Ytpkondemkpogoaa
open Go.RowKit
set_option linter.unusedVariables false
set_option linter.unusedSimpArgs false

set_option maxHeartbeats 4000000 in
set_option maxRecDepth 100000 in
theorem high_any (S : Nat → Prop) (B g : Nat) (rb : Option Nat) (d : List PV) (rd hi la : Int) (kn : Bool) (w : World) (hq : QS S B w g rb d rd hi la kn) :
    Calls Try.prog 21 #[.pointer (some ⟨g, 0, none⟩)] w fun e w' => e = .returned (.int .u64 hi) ∧ w = w' := by
  obtain ⟨V, rfl, hb, ho⟩ := hq.me
  unfold qcells at hb
  have c2 : w.cell? ⟨g, 2, none⟩ = some (.int .u64 hi) := hb.cell 2
  clear hb ho
  go_enter Try.func21, Try.ntmps21
  go_wp2_with fail
  go_ret
  exact ⟨rfl, rfl⟩
set_option maxHeartbeats 4000000 in
set_option maxRecDepth 100000 in
theorem read_any (S : Nat → Prop) (B g : Nat) (rb : Option Nat) (d : List PV) (rd hi la : Int) (kn : Bool) (w : World) (hq : QS S B w g rb d rd hi la kn) :
    Calls Try.prog 18 #[.pointer (some ⟨g, 0, none⟩)] w fun e w' => e = .returned (.int .u64 rd) ∧ w = w' := by
  obtain ⟨V, rfl, hb, ho⟩ := hq.me
  unfold qcells at hb
  have c1 : w.cell? ⟨g, 1, none⟩ = some (.int .u64 rd) := hb.cell 1
  clear hb ho
  go_enter Try.func18, Try.ntmps18
  go_wp2_with fail
  go_ret
  exact ⟨rfl, rfl⟩
set_option maxHeartbeats 4000000 in
set_option maxRecDepth 100000 in
theorem end_any (S : Nat → Prop) (B g : Nat) (rb : Option Nat) (d : List PV) (rd hi la : Int) (kn : Bool) (w : World) (hq : QS S B w g rb d rd hi la kn) :
    Calls Try.prog 20 #[.pointer (some ⟨g, 0, none⟩)] w fun e w' => e = .returned (.tuple #[.int .u64 la, .bool kn]) ∧ ∃ m, w.drewN m = w' := by
  obtain ⟨V, rfl, hb, ho⟩ := hq.me
  unfold qcells at hb
  have c3 : w.cell? ⟨g, 3, none⟩ = some (.int .u64 la) := hb.cell 3
  have c4 : w.cell? ⟨g, 4, none⟩ = some (.bool kn) := hb.cell 4
  clear hb ho
  go_enter Try.func20, Try.ntmps20
  go_wp2_with fail
  go_quiet (fail)
  go_wp2_with fail
  go_ret2
  exact ⟨rfl, _, rfl⟩
set_option maxHeartbeats 4000000 in
set_option maxRecDepth 100000 in
theorem high_nil (w : World) : Calls Try.prog 21 #[.pointer none] w fun e w' => e = .returned (.int .u64 0) ∧ w = w' := by
  go_enter Try.func21, Try.ntmps21
  go_wp2_with fail
  go_ret
  exact ⟨rfl, rfl⟩
set_option maxHeartbeats 4000000 in
set_option maxRecDepth 100000 in
theorem read_nil (w : World) : Calls Try.prog 18 #[.pointer none] w fun e w' => e = .returned (.int .u64 0) ∧ w = w' := by
  go_enter Try.func18, Try.ntmps18
  go_wp2_with fail
  go_ret
  exact ⟨rfl, rfl⟩
set_option maxHeartbeats 4000000 in
set_option maxRecDepth 100000 in
theorem end_nil (w : World) : Calls Try.prog 20 #[.pointer none] w fun e w' => e = .returned (.tuple #[.int .u64 0, .bool false]) ∧ w = w' := by
  go_enter Try.func20, Try.ntmps20
  go_wp2_with fail
  go_ret2
  exact ⟨rfl, rfl⟩
set_option maxHeartbeats 4000000 in
set_option maxRecDepth 100000 in
theorem ready_nil (w : World) : Calls Try.prog 19 #[.pointer none] w fun e w' => e = .returned (.int .i64 0) ∧ w = w' := by
  go_enter Try.func19, Try.ntmps19
  go_wp2_with fail
  go_ret
  exact ⟨rfl, rfl⟩
set_option maxHeartbeats 4000000 in
set_option maxRecDepth 100000 in
theorem held_nil (w : World) : Calls Try.prog 16 #[.pointer none] w fun e w' => e = .returned (.int .i64 0) ∧ w = w' := by
  go_enter Try.func16, Try.ntmps16
  go_wp2_with fail
  go_ret
  exact ⟨rfl, rfl⟩
set_option maxHeartbeats 4000000 in
set_option maxRecDepth 100000 in
theorem done_nil (w : World) : Calls Try.prog 17 #[.pointer none] w fun e w' => e = .returned (.bool false) ∧ ∃ m, w.drewN m = w' := by
  go_enter Try.func17, Try.ntmps17
  go_wp2_with fail
  go_quiet (fail)
  go_wp2_with fail
  go_ret
  exact ⟨rfl, _, rfl⟩
set_option maxHeartbeats 4000000 in
set_option maxRecDepth 100000 in
theorem take_nil (m : Int) (w : World) : Calls Try.prog 13 #[.pointer none, .int .i64 m] w fun e w' => e = .returned (.tuple #[.slice none 0 0, .bool false]) ∧ w = w' := by
  go_enter Try.func13, Try.ntmps13
  go_wp2_with fail
  go_ret2
  exact ⟨rfl, rfl⟩
set_option maxHeartbeats 4000000 in
set_option maxRecDepth 100000 in
theorem done_any (S : Nat → Prop) (B g : Nat) (rb : Option Nat) (d : List PV) (rd hi la : Int) (kn : Bool) (w : World) (hq : QS S B w g rb d rd hi la kn) :
    Calls Try.prog 17 #[.pointer (some ⟨g, 0, none⟩)] w fun e w' => e = .returned (.bool (kn && decide (rd = la))) ∧ Below w.heap.size w w' := by
  obtain ⟨V, rfl, hb, ho⟩ := hq.me
  unfold qcells at hb
  have c1 : w.cell? ⟨g, 1, none⟩ = some (.int .u64 rd) := hb.cell 1
  have c3 : w.cell? ⟨g, 3, none⟩ = some (.int .u64 la) := hb.cell 3
  have c4 : w.cell? ⟨g, 4, none⟩ = some (.bool kn) := hb.cell 4
  clear hb ho
  cases kn
  · go_enter Try.func17, Try.ntmps17
    go_wp2_with fail
    go_quiet (fail)
    go_wp2_with fail
    go_ret
    exact ⟨rfl, below_drewN (Below.refl _ _) _⟩
  · by_cases h : rd = la
    · have h' : (rd == la) = true := by simpa using h
      rw [decide_eq_true h]
      clear h
      go_enter Try.func17, Try.ntmps17
      go_wp2_with fail
      go_quiet (fail)
      go_wp2_with fail
      go_ret
      exact ⟨rfl, below_drewN (Below.refl _ _) _⟩
    · have h' : (rd == la) = false := by simpa using h
      rw [decide_eq_false h]
      clear h
      go_enter Try.func17, Try.ntmps17
      go_wp2_with fail
      go_quiet (fail)
      go_wp2_with fail
      go_ret
      exact ⟨rfl, below_drewN (Below.refl _ _) _⟩
theorem hld_take (L : List Pat) (k : Nat) (hk : k < L.length) : hld (L.take (k + 1)) = hld (L.take k) + L[k].2.length := by
  rw [List.take_succ_eq_append_getElem hk]
  unfold hld
  rw [List.map_append, List.sum_append]
  simp
theorem hld_bd {rd : Int} {L : List Pat} (h : Qk rd L) : ∀ k, (hld (L.take k) : Int) ≤ QM := by
  have key : ∀ (L : List Pat) (b : Int), Ch b L → 0 ≤ b → (∀ x ∈ L, pe x ≤ QM) → (L = [] ∨ b + (hld L : Int) ≤ QM) := by
    intro L
    induction L with
    | nil => intro b _ _ _; exact .inl rfl
    | cons x T ih =>
      intro b hc hb hh
      obtain ⟨h1, h2, h3⟩ := hc
      have hx := hh x (by simp)
      have hpe : pe x = x.1 + x.2.length := rfl
      have e : hld (x :: T) = x.2.length + hld T := by simp [hld]
      right
      rcases ih (pe x) h3 (by omega) (fun y hy => hh y (by simp [hy])) with rfl | h4
      · simp [hld] at e ⊢
        omega
      · omega
  have tk : ∀ (L : List Pat) (b : Int) (k : Nat), Ch b L → Ch b (L.take k) := by
    intro L
    induction L with
    | nil => intro b k _; simp [Ch]
    | cons x T ih =>
      intro b k hc
      cases k with
      | zero => trivial
      | succ k =>
        obtain ⟨h1, h2, h3⟩ := hc
        exact ⟨h1, h2, ih _ k h3⟩
  intro k
  rcases key (L.take k) rd (tk L rd k h.ch) h.lo (fun x hx => h.hi x (List.mem_of_mem_take hx)) with h1 | h1
  · rw [h1]; decide
  · have := h.lo; omega
theorem rdy_cons (r : Int) (x : Pat) (T : List Pat) : rdy r (x :: T) = if x.1 = r then x.2.length + rdy (pe x) T else 0 := rfl
theorem drop_at {α : Type} (L : List α) (k : Nat) (hk : k < L.length) : L.drop k = L[k] :: L.drop (k + 1) := List.drop_eq_getElem_cons hk
set_option maxHeartbeats 4000000 in
set_option maxRecDepth 100000 in
theorem held_any (S : Nat → Prop) (B g : Nat) (rb : Option Nat) (d : List PV) (rd hi la : Int) (kn : Bool) (w : World) (hq : QS S B w g rb d rd hi la kn) (hk : Qk rd (lp d)) :
    Calls Try.prog 16 #[.pointer (some ⟨g, 0, none⟩)] w fun e w' => e = .returned (.int .i64 (hld (lp d))) ∧ Below w.heap.size w w' := by
  obtain ⟨V, rfl, hb, ho⟩ := hq.me
  have hps := hq.ps
  unfold qcells at hb
  obtain ⟨A, cap, rfl, hnc, hcm, _⟩ := ho.form
  have hcm' : cap ≤ 9223372036854775807 := by unfold maxLen at hcm; omega
  have c0 : w.cell? ⟨g, 0, none⟩ = some (.slice A d.length cap) := hb.cell 0
  obtain ⟨n, hn⟩ : ∃ n, n = d.length := ⟨_, rfl⟩
  rw [← hn] at c0 hnc ho
  have HN := Lib.hid hn
  have HO := Lib.hid ho
  have HP := Lib.hid hps
  have HB := Lib.hid (hld_bd hk)
  clear hb ho hps hq hn hcm hk
  go_enter Try.func16, Try.ntmps16
  go_wp2_with fail
  clear c0
  go_loopw [3, 13] (fun sn sc wr => ∃ (k : Nat), sc = .int .i64 k ∧ k ≤ n ∧ sn = .int .i64 (hld ((lp d).take k)) ∧ Below w.heap.size w wr) (fun _ sc _ => n - (intOf sc).toNat)
  case atStart => exact ⟨0, rfl, Nat.zero_le _, rfl, Below.refl _ _⟩
  case round =>
    obtain ⟨k, rfl, hkn, rfl, hB⟩ := hrel
    by_cases hkl : k < n
    · have hkd : k < d.length := by rw [← HN.out]; exact hkl
      obtain ⟨bb, off, rfl, hbb, d0, d1⟩ := pv_at (HO.out.below hB) k hkd
      obtain ⟨Ax, cx, hx, hx1, hx2⟩ := pvv_len (HP.out _ (List.getElem_mem hkd)).1
      have ht := hld_take (lp d) k (by simpa using hkd)
      rw [List.getElem_map] at ht
      have h0 := HB.out k
      have h1 := HB.out (k + 1)
      rw [ht] at h1
      rw [hx] at d1
      have HT := Lib.hid ht
      obtain ⟨ln, hln⟩ : ∃ ln, ln = d[k].1.2.length := ⟨_, rfl⟩
      obtain ⟨of, hof⟩ : ∃ of, of = d[k].1.1 := ⟨_, rfl⟩
      obtain ⟨sm, hsm⟩ : ∃ sm, sm = hld ((lp d).take k) := ⟨_, rfl⟩
      rw [← hln] at d1 h1 HT
      rw [← hof] at d0
      rw [← hsm] at h0 h1 HT ⊢
      have hB1 := hB.alloc hB.size (.cells #[.int .u64 of, .slice Ax ln cx] 66)
      simp only [QM] at h0 h1
      clear hx hx1 hx2 hln hof hsm ht hkd
      go_wp2_with fail
      go_roundw
      case rel => exact ⟨k + 1, by go_num, by omega, by rw [HT.out]; go_num, hB1⟩
      case measure => simp [intOf]; omega
    · have htk : (lp d).take k = lp d := List.take_of_length_le (by simp [lp]; have := HN.out; omega)
      rw [htk]
      clear htk
      go_wp2_with fail
      go_ret
      exact ⟨rfl, hB⟩
set_option maxHeartbeats 4000000 in
set_option maxRecDepth 100000 in
theorem ready_any (S : Nat → Prop) (B g : Nat) (rb : Option Nat) (d : List PV) (rd hi la : Int) (kn : Bool) (w : World) (hq : QS S B w g rb d rd hi la kn) (hk : Qk rd (lp d)) :
    Calls Try.prog 19 #[.pointer (some ⟨g, 0, none⟩)] w fun e w' => e = .returned (.int .i64 (rdy rd (lp d))) ∧ Below w.heap.size w w' := by
  obtain ⟨V, rfl, hb, ho⟩ := hq.me
  have hps := hq.ps
  unfold qcells at hb
  obtain ⟨A, cap, rfl, hnc, hcm, _⟩ := ho.form
  have hcm' : cap ≤ 9223372036854775807 := by unfold maxLen at hcm; omega
  have c0 : w.cell? ⟨g, 0, none⟩ = some (.slice A d.length cap) := hb.cell 0
  have c1 : w.cell? ⟨g, 1, none⟩ = some (.int .u64 rd) := hb.cell 1
  obtain ⟨n, hn⟩ : ∃ n, n = d.length := ⟨_, rfl⟩
  rw [← hn] at c0 hnc ho
  have HN := Lib.hid hn
  have HO := Lib.hid ho
  have HP := Lib.hid hps
  have C1 := Lib.hid c1
  have HK := Lib.hid hk
  have hlo := hk.lo
  have hrh := rdy_hld rd (lp d)
  have hb0 := hld_bd hk (lp d).length
  rw [List.take_length] at hb0
  obtain ⟨R, hR⟩ : ∃ R, R = rdy rd (lp d) := ⟨_, rfl⟩
  have hRq : (R : Int) ≤ 4611686018427387903 := by simp only [QM] at hb0; omega
  rw [← hR]
  have HR := Lib.hid hR
  clear hb ho hps hq hn hcm hk hrh hb0 hR c1
  go_enter Try.func19, Try.ntmps19
  go_wp2_with fail
  clear c0
  go_loopw [3, 13] (fun sn sc wr => ∃ (k m : Nat), sc = .int .i64 k ∧ k ≤ n ∧ sn = .int .i64 m ∧ Hid (R = m + rdy (rd + m) ((lp d).drop k)) ∧ Below w.heap.size w wr) (fun _ sc _ => n - (intOf sc).toNat)
  case atStart => exact ⟨0, 0, rfl, Nat.zero_le _, rfl, Lib.hid (by rw [HR.out]; simp), Below.refl _ _⟩
  case round =>
    obtain ⟨k, m, rfl, hkn, rfl, HM, hB⟩ := hrel
    have hmR : m ≤ R := by have := HM.out; omega
    have c1 := keepB_cell C1.out _ hB
    have hgl : g < wr.heap.size := World.block_lt_of_cell? _ _ c1
    by_cases hkl : k < n
    · have hkd : k < d.length := by rw [← HN.out]; exact hkl
      obtain ⟨bb, off, rfl, hbb, d0, d1⟩ := pv_at (HO.out.below hB) k hkd
      obtain ⟨Ax, cx, hx, hx1, hx2⟩ := pvv_len (HP.out _ (List.getElem_mem hkd)).1
      have hmem : d[k].1 ∈ lp d := List.mem_map_of_mem (List.getElem_mem hkd)
      have hpe := HK.out.hi _ hmem
      have hge := HK.out.ch.up.1 _ hmem
      have hdr := drop_at (lp d) k (by simpa using hkd)
      rw [List.getElem_map] at hdr
      have hr := HM.out
      rw [hdr, rdy_cons] at hr
      rw [hx] at d1
      obtain ⟨p, hp⟩ : ∃ p, p = d[k].1 := ⟨_, rfl⟩
      rw [← hp] at d0 d1 hr hpe hge
      clear hx hp hdr hmem hx1 hx2
      obtain ⟨of, l⟩ := p
      simp only [pe, QM] at d0 d1 hr hpe hge
      obtain ⟨ln, hln⟩ : ∃ ln, ln = l.length := ⟨_, rfl⟩
      rw [← hln] at d1 hr hpe
      clear hln
      have hB1 := hB.alloc hB.size (.cells #[.int .u64 of, .slice Ax ln cx] 66)
      have hw1 : IntKind.u64.wrap (m : Int) = m := Go.IntWalk.u64_in _ (by omega)
      have hw2 : IntKind.u64.wrap (rd + (m : Int)) = rd + m := Go.IntWalk.u64_in _ (by omega)
      by_cases he : of = rd + m
      · have he' : (of == rd + (m : Int)) = true := by simpa using he
        have he2 : (of != rd + (m : Int)) = false := by simpa using he
        rw [if_pos he] at hr
        have HM2 : Hid (R = (m + ln : Nat) + rdy (rd + ((m + ln : Nat) : Int)) ((lp d).drop (k + 1))) := Lib.hid (by rw [show rd + ((m + ln : Nat) : Int) = of + ln by omega]; omega)
        have hml : (m : Int) + ln ≤ 4611686018427387903 := by omega
        clear hr he
        go_wp2_with fail
        go_quiet (fail)
        go_wp2_with fail
        go_roundw
        case rel => exact ⟨k + 1, m + ln, by go_num, by omega, by go_num, HM2, below_drewN hB1 _⟩
        case measure => simp [intOf]; omega
      · have he' : (of == rd + (m : Int)) = false := by simpa using he
        have he2 : (of != rd + (m : Int)) = true := by simpa using he
        rw [if_neg he] at hr
        have HRm := Lib.hid (show R = m by omega)
        clear hr he
        go_wp2_with fail
        go_quiet (fail)
        go_wp2_with fail
        go_ret
        rw [HRm.out]
        exact ⟨rfl, below_drewN hB1 _⟩
    · have HRm := Lib.hid (show R = m by
        have := HM.out
        rw [List.drop_of_length_le (by simp [lp]; have := HN.out; omega)] at this
        simpa [rdy] using this)
      go_wp2_with fail
      go_ret
      rw [HRm.out]
      exact ⟨rfl, hB⟩
def chkE (hi la : Int) (kn : Bool) (off n : Int) (en : Bool) : Int :=
  if QM < off ∨ QM - off < n then 1 else if ((kn && (decide (la < off + n) || (en && decide (off + n ≠ la)))) || (en && decide (off + n < hi))) = true then 4 else 0
set_option maxHeartbeats 4000000 in
set_option maxRecDepth 100000 in
theorem check_any (S : Nat → Prop) (B g : Nat) (rb : Option Nat) (d : List PV) (rd hi la : Int) (kn : Bool) (off : Int) (n : Nat) (en : Bool) (w : World) (hq : QS S B w g rb d rd hi la kn) (ho : 0 ≤ off ∧ off ≤ 18446744073709551615) (hn : n ≤ 1000000) :
    Calls Try.prog 29 #[.pointer (some ⟨g, 0, none⟩), .int .u64 off, .int .i64 n, .bool en] w fun e w' => e = .returned (.int .i64 (chkE hi la kn off n en)) ∧ w = w' := by
  obtain ⟨V, rfl, hb, _⟩ := hq.me
  unfold qcells at hb
  have c2 : w.cell? ⟨g, 2, none⟩ = some (.int .u64 hi) := hb.cell 2
  have c3 : w.cell? ⟨g, 3, none⟩ = some (.int .u64 la) := hb.cell 3
  have c4 : w.cell? ⟨g, 4, none⟩ = some (.bool kn) := hb.cell 4
  have hw0 : IntKind.u64.wrap (n : Int) = n := Go.IntWalk.u64_in _ (by omega)
  clear hb hq
  unfold chkE
  simp only [QM]
  by_cases h1 : 4611686018427387903 < off
  · have q1 : decide (4611686018427387903 < off) = true := decide_eq_true h1
    rw [if_pos (.inl h1)]
    go_enter Try.func29, Try.ntmps29
    go_wp2_with fail
    go_ret
    exact ⟨rfl, rfl⟩
  · have q1 : decide (4611686018427387903 < off) = false := decide_eq_false h1
    have hw1 : IntKind.u64.wrap (4611686018427387903 - off) = 4611686018427387903 - off := Go.IntWalk.u64_in _ (by omega)
    by_cases h2 : 4611686018427387903 - off < (n : Int)
    · have q2 : decide (4611686018427387903 - off < (n : Int)) = true := decide_eq_true h2
      rw [if_pos (.inr h2)]
      go_enter Try.func29, Try.ntmps29
      go_wp2_with fail
      go_ret
      exact ⟨rfl, rfl⟩
    · have q2 : decide (4611686018427387903 - off < (n : Int)) = false := decide_eq_false h2
      have hw2 : IntKind.u64.wrap (off + (n : Int)) = off + n := Go.IntWalk.u64_in _ (by omega)
      rw [if_neg (by omega)]
      obtain ⟨to_, hto⟩ : ∃ to_, to_ = off + (n : Int) := ⟨_, rfl⟩
      rw [← hto] at hw2 ⊢
      rw [hto] at hw2
      obtain ⟨p1, hp1⟩ : ∃ p, p = decide (la < to_) := ⟨_, rfl⟩
      obtain ⟨p2, hp2⟩ : ∃ p, p = decide (to_ ≠ la) := ⟨_, rfl⟩
      obtain ⟨p3, hp3⟩ : ∃ p, p = decide (to_ < hi) := ⟨_, rfl⟩
      rw [← hp1, ← hp2, ← hp3]
      have hp2' : (to_ != la) = p2 := by rw [hp2]; simp [bne, BEq.beq]
      replace hp1 := hp1.symm
      replace hp3 := hp3.symm
      rw [hto] at hp1 hp2' hp3
      clear hp2 hto
      cases kn <;> cases en <;> cases p1 <;> cases p2 <;> cases p3
      all_goals
        simp only [Bool.and_true, Bool.true_and, Bool.false_and, Bool.and_false, Bool.or_true, Bool.true_or, Bool.or_false, Bool.false_or, Bool.or_self, Bool.and_self, if_true, Bool.false_eq_true, if_false]
        go_enter Try.func29, Try.ntmps29
        go_wp2_with fail
        go_ret
        exact ⟨rfl, rfl⟩
set_option maxHeartbeats 4000000 in
set_option maxRecDepth 100000 in
theorem check_nil (off : Int) (n : Int) (en : Bool) (w : World) : Calls Try.prog 29 #[.pointer none, .int .u64 off, .int .i64 n, .bool en] w fun e w' => e = .returned (.int .i64 6) ∧ w = w' := by
  go_enter Try.func29, Try.ntmps29
  go_wp2_with fail
  go_ret
  exact ⟨rfl, rfl⟩
set_option maxHeartbeats 4000000 in
set_option maxRecDepth 100000 in
theorem pend_any (x : Pat) (A : Option Addr) (cap : Nat) (w : World) (h : 0 ≤ x.1 ∧ pe x ≤ QM) : Calls Try.prog 31 #[.agg #[.int .u64 x.1, .slice A x.2.length cap]] w fun e w' => e = .returned (.int .u64 (pe x)) ∧ Below w.heap.size w w' := by
  obtain ⟨of, l⟩ := x
  simp only [pe, QM] at h ⊢
  obtain ⟨ln, hln⟩ : ∃ ln, ln = l.length := ⟨_, rfl⟩
  rw [← hln] at h ⊢
  clear hln
  have hw1 : IntKind.u64.wrap (ln : Int) = ln := Go.IntWalk.u64_in _ (by omega)
  have hw2 : IntKind.u64.wrap (of + (ln : Int)) = of + ln := Go.IntWalk.u64_in _ (by omega)
  have hB := (Below.refl w.heap.size w).alloc (Nat.le_refl _) (.cells #[.int .u64 of, .slice A ln cap] 66)
  go_enter Try.func31, Try.ntmps31
  go_wp2_with fail
  go_ret
  exact ⟨rfl, hB⟩

end Go.Proofs.Ytpkondemkpogoaa
