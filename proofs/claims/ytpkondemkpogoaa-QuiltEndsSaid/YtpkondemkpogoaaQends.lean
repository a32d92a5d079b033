/-
  QuiltEnds: no byte lies beyond the end that is known; what is refused changes nothing.
-/
import Derived.Test.YtpkondemkpogoaaQops
namespace Go.Proofs.Ytpkondemkpogoaa
open Go.RowKit
set_option linter.unusedVariables false
set_option linter.unusedSimpArgs false


theorem chk_kn {hi la : Int} {off n : Int} {en : Bool} (h : chkE hi la true off n en = 0) : off + n ≤ la := by
  unfold chkE at h
  split at h
  · omega
  · split at h
    · omega
    · next h2 =>
      simp only [Bool.true_and, Bool.or_eq_true, decide_eq_true_eq, not_or] at h2
      omega
theorem chk_en {hi la : Int} {kn : Bool} {off n : Int} (h : chkE hi la kn off n true = 0) : hi ≤ off + n := by
  unfold chkE at h
  split at h
  · omega
  · split at h
    · omega
    · next h2 =>
      simp only [Bool.true_and, Bool.or_eq_true, decide_eq_true_eq, not_or] at h2
      omega
/-- No byte beyond the end. -/
def QE (q : Q) : Prop := q.kn = true → q.hi ≤ q.la
theorem QE.new : QE Q.new := fun h => by simp [Q.new] at h
theorem QE.put {q : Q} (h : QE q) (off : Int) (l : List Int) (en : Bool) : QE (q.put off l en) := by
  unfold Q.put
  split
  · next he =>
    intro hk
    have he' : chkE q.hi q.la q.kn off l.length en = 0 := he
    simp only at hk ⊢
    cases en with
    | true =>
      have h1 := chk_en he'
      have e : laE true (off + (l.length : Int)) q.la = off + l.length := rfl
      rw [e]
      omega
    | false =>
      simp only [Bool.or_false] at hk
      rw [hk] at he'
      have h1 := chk_kn he'
      have h2 := h hk
      have e : laE false (off + (l.length : Int)) q.la = q.la := rfl
      rw [e]
      omega
  · exact h
theorem Q.put_no {q : Q} {off : Int} {l : List Int} {en : Bool} (h : q.err off l en ≠ 0) : q.put off l en = q := if_neg h
set_option maxHeartbeats 8000000 in
set_option maxRecDepth 100000 in
theorem ends_walk (A : Option Addr) (N cap : Nat) (at_ : Int) (v : Value) (l : List Int) (en : Bool) (w : World) (hp : Ops w A N) (hnc : N ≤ cap) (hcm : cap ≤ maxLen) (hat : 0 ≤ at_ ∧ at_ ≤ 18446744073709551615) (hr : Rd w .u8 v l) (hby : BytesOk l) :
    Calls Try.prog 6 #[.slice A N cap, .int .u64 at_, v, .bool en] w fun e w' => e = .returned (.bool true) ∧ Below w.heap.size w w' := by
  have hcm' : cap ≤ 9223372036854775807 := by unfold maxLen at hcm; omega
  have haw := awake_any w
  go_enter Try.func6, Try.ntmps6
  go_wp2_with fail
  (with_reducible refine haw.mono ?_)
  rintro e w1 ⟨rfl, hB1⟩
  clear haw
  go_wp2_with fail
  (with_reducible refine (new_law _).mono ?_)
  rintro e w2 ⟨rfl, hQ2, hb2⟩
  obtain ⟨B, hBB⟩ : ∃ B, B = w1.heap.size := ⟨_, rfl⟩
  have hBw : w.heap.size ≤ B := by rw [hBB]; exact hB1.size
  have hs2 : B ≤ w2.heap.size := by rw [hBB]; exact hb2.size
  have hB2 : Below w.heap.size w w2 := hB1.trans (hb2.mono hB1.size)
  rw [← hBB] at hQ2
  clear hB1 hb2
  go_wp2_with fail
  rw [← hBB]
  clear hBB
  go_loopw [23] (fun s23 wr => ∃ (i : Nat) (q : Q), s23 = .int .i64 i ∧ i ≤ N ∧ QA B wr B q ∧ QI q ∧ QE q ∧ hld q.L ≤ 60 * min i 30 ∧ Below w.heap.size w wr ∧ B ≤ wr.heap.size) (fun s23 _ => N - (intOf s23).toNat)
  case atStart => exact ⟨0, Q.new, rfl, Nat.zero_le _, hQ2, QI.new, QE.new, Nat.zero_le _, hB2, hs2⟩
  case round =>
    clear hQ2 hs2 hB2
    obtain ⟨i, q, rfl, hin, hQ, hI, hE, hh, hB, hs⟩ := hrel
    by_cases hi : i < N
    · obtain ⟨b, off, oo, rfl, hbl, hok, hc⟩ := (hp.below hB) i hi
      obtain ⟨d_, of, vv, ll, en_, mm⟩ := oo
      obtain ⟨_, hof, ⟨hrv, hbv⟩, _⟩ := hok
      simp only at hof hrv hbv
      obtain ⟨VA, vc, rfl⟩ := hrv.form
      have c0 : wr.cell? ⟨b, off + i * 5, none⟩ = some (.int .u8 d_) := hc 0 (by decide)
      have c1 : wr.cell? ⟨b, off + i * 5 + 1, none⟩ = some (.int .u64 of) := hc 1 (by decide)
      have c2 : wr.cell? ⟨b, off + i * 5 + 2, none⟩ = some (.slice VA ll.length vc) := hc 2 (by decide)
      have c3 : wr.cell? ⟨b, off + i * 5 + 3, none⟩ = some (.bool en_) := hc 3 (by decide)
      have c4 : wr.cell? ⟨b, off + i * 5 + 4, none⟩ = some (.int .i64 mm) := hc 4 (by decide)
      have hiI : (i : Int) < (N : Int) := by omega
      clear hc
      have HP := Lib.hid hp
      clear hp
      by_cases h30 : i < 30
      · have h30I : (i : Int) < 30 := by omega
        obtain ⟨ob, hob⟩ : ∃ ob, ob = wr.heap.size := ⟨_, rfl⟩
        have hY : Blk (wr.alloc (.cells #[.int .u8 d_, .int .u64 of, (.slice VA ll.length vc), .bool en_, .int .i64 mm] 44)) ob 44 #[.int .u8 d_, .int .u64 of, (.slice VA ll.length vc), .bool en_, .int .i64 mm] := by rw [hob]; exact Blk.new _ _ _
        have hba : Below wr.heap.size wr (wr.alloc (.cells #[.int .u8 d_, .int .u64 of, (.slice VA ll.length vc), .bool en_, .int .i64 mm] 44)) := (Below.refl _ _).alloc (Nat.le_refl _) _
        have HALL : QA B (wr.alloc (.cells #[.int .u8 d_, .int .u64 of, (.slice VA ll.length vc), .bool en_, .int .i64 mm] 44)) B q ∧ Blk (wr.alloc (.cells #[.int .u8 d_, .int .u64 of, (.slice VA ll.length vc), .bool en_, .int .i64 mm] 44)) ob 44 #[.int .u8 d_, .int .u64 of, (.slice VA ll.length vc), .bool en_, .int .i64 mm] ∧ Rd (wr.alloc (.cells #[.int .u8 d_, .int .u64 of, (.slice VA ll.length vc), .bool en_, .int .i64 mm] 44)) .u8 (.slice VA ll.length vc) ll ∧ Below w.heap.size w (wr.alloc (.cells #[.int .u8 d_, .int .u64 of, (.slice VA ll.length vc), .bool en_, .int .i64 mm] 44)) ∧ B ≤ (wr.alloc (.cells #[.int .u8 d_, .int .u64 of, (.slice VA ll.length vc), .bool en_, .int .i64 mm] 44)).heap.size :=
          ⟨hQ.below hba, hY, hrv.below hba, hB.trans (hba.mono hB.size), Nat.le_trans hs hba.size⟩
        have HA := Lib.hid HALL
        clear HALL hY hba
        go_upto_region 8 with (fail)
        rw [← hob]
        refine wp_world (fun wz => QA B wz B q ∧ Blk wz ob 44 #[.int .u8 d_, .int .u64 of, (.slice VA ll.length vc), .bool en_, .int .i64 mm] ∧ Rd wz .u8 (.slice VA ll.length vc) ll ∧ Below w.heap.size w wz ∧ B ≤ wz.heap.size) HA.out ?_
        clear HA hob c0 c1 c2 c3 c4 hQ hrv hB hs
        rintro wz ⟨hQ, hY, hrv, hB, hs⟩
        have hbd : Below wz.heap.size wz wz.drew := below_drewN (Below.refl _ wz) 1
        have hQd := hQ.below hbd
        have hYd : Blk wz.drew ob 44 #[.int .u8 d_, .int .u64 of, (.slice VA ll.length vc), .bool en_, .int .i64 mm] := hY
        have hrd := hrv.below hbd
        have hBd := hB.trans (hbd.mono hB.size)
        have hsd : B ≤ wz.drew.heap.size := hs
        have z1 : wz.cell? ⟨ob, 1, none⟩ = some (.int .u64 of) := hY.cell 1
        have z2 : wz.cell? ⟨ob, 2, none⟩ = some (.slice VA ll.length vc) := hY.cell 2
        have z3 : wz.cell? ⟨ob, 3, none⟩ = some (.bool en_) := hY.cell 3
        have hsm : hld q.L ≤ 1000000 := by omega
        have htk : (ll.take 60).length ≤ 1000000 := by rw [List.length_take]; omega
        have hbt := hbv.take 60
        have htm : of.tmod 500 = of % 500 := Int.tmod_eq_emod_of_nonneg hof.1
        have hofm : 0 ≤ of % 500 ∧ of % 500 ≤ 18446744073709551615 := by omega
        have hI4 : QI (q.put (of % 500) (ll.take 60) en_) := hI.put hofm.1 hbt
        have hE4 := hE.put (of % 500) (ll.take 60) en_
        have hh4 : hld (q.put (of % 500) (ll.take 60) en_).L ≤ 60 * min (i + 1) 30 := by
          have h1 := Q.put_hld q (of % 500) (ll.take 60) en_
          have h2 : (ll.take 60).length ≤ 60 := by rw [List.length_take]; omega
          omega
        go_wp2_with fail
        refine wp_region_held_drew (S := fun w' => w'.cell? ⟨ob, 1, none⟩ = some (.int .u64 of) ∧ w'.cell? ⟨ob, 2, none⟩ = some (.slice VA ll.length vc) ∧ w'.cell? ⟨ob, 3, none⟩ = some (.bool en_)) (by kernel_rfl) (by first | exact ⟨z1, z2, z3⟩ | exact ⟨a1, a2, a3⟩ | exact ⟨b1, b2, b3⟩) (fun _ => ?_)
        refine wpAnyH_take (i := 0) (oi := ({ dst := some 30, op := Op.move (Operand.tmp 9), type := 25, pos := _, after := #[], guard := none } : Oper)) (v := ?_) rfl (by kernel_rfl) (by kernel_rfl) (by kernel_rfl) (fun _ _ _ h => h) (Or.inl ⟨by rfl, ?_⟩) (by first | exact ⟨z1, z2, z3⟩ | exact ⟨a1, a2, a3⟩ | exact ⟨b1, b2, b3⟩) ?_
        rotate_left
        · intro w hSw
          try dsimp only at hSw
          go_simp
          try with_reducible rfl
        try simp only [Act.put, List.setIfInBounds_toArray, List.set_cons_zero, List.set_cons_succ]
        refine wpAnyH_take (i := 1) (oi := ({ dst := some 31, op := Op.fieldAddr 44 (Operand.tmp 11) 1, type := 0, pos := _, after := #[], guard := none } : Oper)) (v := ?_) rfl (by kernel_rfl) (by kernel_rfl) (by kernel_rfl) (fun _ _ _ h => h) (Or.inl ⟨by rfl, ?_⟩) (by first | exact ⟨z1, z2, z3⟩ | exact ⟨a1, a2, a3⟩ | exact ⟨b1, b2, b3⟩) ?_
        rotate_left
        · intro w hSw
          try dsimp only at hSw
          go_simp
          try with_reducible rfl
        try simp only [Act.put, List.setIfInBounds_toArray, List.set_cons_zero, List.set_cons_succ]
        refine wpAnyH_take (i := 2) (oi := ({ dst := some 32, op := Op.load 27 (Operand.tmp 31), type := 27, pos := _, after := #[{ on := 1, ground := Ground.data }], guard := none } : Oper)) (v := ?_) rfl (by kernel_rfl) (by kernel_rfl) (by kernel_rfl) (fun _ _ _ h => h) (Or.inl ⟨by rfl, ?_⟩) (by first | exact ⟨z1, z2, z3⟩ | exact ⟨a1, a2, a3⟩ | exact ⟨b1, b2, b3⟩) ?_
        rotate_left
        · intro w hSw
          try dsimp only at hSw
          go_simp
          try with_reducible rfl
        try simp only [Act.put, List.setIfInBounds_toArray, List.set_cons_zero, List.set_cons_succ]
        refine wpAnyH_take (i := 3) (oi := ({ dst := some 33, op := Op.binOp BinOp.rem 27 (Operand.tmp 32) (Operand.const (Value.int IntKind.u64 500)) 27, type := 27, pos := _, after := #[{ on := 2, ground := Ground.data }], guard := none } : Oper)) (v := ?_) rfl (by kernel_rfl) (by kernel_rfl) (by kernel_rfl) (fun _ _ _ h => h) (Or.inl ⟨by rfl, ?_⟩) (by first | exact ⟨z1, z2, z3⟩ | exact ⟨a1, a2, a3⟩ | exact ⟨b1, b2, b3⟩) ?_
        rotate_left
        · intro w hSw
          try dsimp only at hSw
          go_simp
          try with_reducible rfl
        try simp only [Act.put, List.setIfInBounds_toArray, List.set_cons_zero, List.set_cons_succ]
        refine wpAnyH_take (i := 4) (oi := ({ dst := some 34, op := Op.fieldAddr 44 (Operand.tmp 11) 2, type := 0, pos := _, after := #[], guard := none } : Oper)) (v := ?_) rfl (by kernel_rfl) (by kernel_rfl) (by kernel_rfl) (fun _ _ _ h => h) (Or.inl ⟨by rfl, ?_⟩) (by first | exact ⟨z1, z2, z3⟩ | exact ⟨a1, a2, a3⟩ | exact ⟨b1, b2, b3⟩) ?_
        rotate_left
        · intro w hSw
          try dsimp only at hSw
          go_simp
          try with_reducible rfl
        try simp only [Act.put, List.setIfInBounds_toArray, List.set_cons_zero, List.set_cons_succ]
        refine wpAnyH_take (i := 5) (oi := ({ dst := some 35, op := Op.load 22 (Operand.tmp 34), type := 22, pos := _, after := #[{ on := 4, ground := Ground.data }], guard := none } : Oper)) (v := ?_) rfl (by kernel_rfl) (by kernel_rfl) (by kernel_rfl) (fun _ _ _ h => h) (Or.inl ⟨by rfl, ?_⟩) (by first | exact ⟨z1, z2, z3⟩ | exact ⟨a1, a2, a3⟩ | exact ⟨b1, b2, b3⟩) ?_
        rotate_left
        · intro w hSw
          try dsimp only at hSw
          go_simp
          try with_reducible rfl
        try simp only [Act.put, List.setIfInBounds_toArray, List.set_cons_zero, List.set_cons_succ]
        refine wpAnyH_take (i := 7) (oi := ({ dst := some 37, op := Op.fieldAddr 44 (Operand.tmp 11) 3, type := 0, pos := _, after := #[], guard := none } : Oper)) (v := ?_) rfl (by kernel_rfl) (by kernel_rfl) (by kernel_rfl) (fun _ _ _ h => h) (Or.inl ⟨by rfl, ?_⟩) (by first | exact ⟨z1, z2, z3⟩ | exact ⟨a1, a2, a3⟩ | exact ⟨b1, b2, b3⟩) ?_
        rotate_left
        · intro w hSw
          try dsimp only at hSw
          go_simp
          try with_reducible rfl
        try simp only [Act.put, List.setIfInBounds_toArray, List.set_cons_zero, List.set_cons_succ]
        refine wpAnyH_take (i := 8) (oi := ({ dst := some 38, op := Op.load 4 (Operand.tmp 37), type := 4, pos := _, after := #[{ on := 7, ground := Ground.data }], guard := none } : Oper)) (v := ?_) rfl (by kernel_rfl) (by kernel_rfl) (by kernel_rfl) (fun _ _ _ h => h) (Or.inl ⟨by rfl, ?_⟩) (by first | exact ⟨z1, z2, z3⟩ | exact ⟨a1, a2, a3⟩ | exact ⟨b1, b2, b3⟩) ?_
        rotate_left
        · intro w hSw
          try dsimp only at hSw
          go_simp
          try with_reducible rfl
        try simp only [Act.put, List.setIfInBounds_toArray, List.set_cons_zero, List.set_cons_succ]
        refine wpAnyH_ready (rs := [6]) (by kernel_rfl) (by simp) ?_
        refine AllReadyH.cons (o := ({ dst := some 36, op := Op.call { callee := Callee.value (Operand.func 9), args := #[Operand.tmp 35, Operand.const (Value.int IntKind.i64 60)], argTypes := #[22, 3] }, type := 22, pos := _, after := #[{ on := 5, ground := Ground.data }], guard := none } : Oper)) rfl (fun K hK => ?_) AllReadyH.nil
        go_simp
        go_at_call 9
        refine (cut_any (.slice VA ll.length vc) ll 60 _ hrd (by decide)).mono ?_
        rintro e w3 ⟨v3, rfl, ho3, hb3⟩
        have hQ3 := hQd.below hb3
        have hY3 := hYd.same hb3
        have hB3 := hBd.trans (hb3.mono hBd.size)
        have hs3 : B ≤ w3.heap.size := Nat.le_trans hsd hb3.size
        have hr3 := rd_of_own (k := .u8) ho3
        have a1 : w3.cell? ⟨ob, 1, none⟩ = some (.int .u64 of) := hY3.cell 1
        have a2 : w3.cell? ⟨ob, 2, none⟩ = some (.slice VA ll.length vc) := hY3.cell 2
        have a3 : w3.cell? ⟨ob, 3, none⟩ = some (.bool en_) := hY3.cell 3
        refine hK.out _ _ (by first | exact ⟨z1, z2, z3⟩ | exact ⟨a1, a2, a3⟩ | exact ⟨b1, b2, b3⟩) (fun _ => ?_)
        clear hK K
        try simp only [Act.put, List.setIfInBounds_toArray, List.set_cons_zero, List.set_cons_succ]
        refine wpAnyH_ready (rs := [9]) (by kernel_rfl) (by simp) ?_
        refine AllReadyH.cons (o := ({ dst := some 39, op := Op.call { callee := Callee.value (Operand.func 11), args := #[Operand.tmp 30, Operand.tmp 33, Operand.tmp 36, Operand.tmp 38], argTypes := #[25, 27, 22, 4] }, type := 28, pos := _, after := #[{ on := 0, ground := Ground.data }, { on := 3, ground := Ground.data }, { on := 6, ground := Ground.data }, { on := 8, ground := Ground.data }, { on := 6, ground := Ground.chain }], guard := none } : Oper)) rfl (fun K hK => ?_) AllReadyH.nil
        go_simp
        go_at_call 11
        with_reducible refine (put_law B B q (of % 500) v3 (ll.take 60) en_ w3 hQ3 hI hsm hs3 hr3 htk hbt hofm).mono ?_
        rintro e w4 ⟨rfl, hQ4, hb4, hk4⟩
        have hY4 := hk4 ob 44 _ hY3 (by decide) (by decide)
        have hB4 := hB3.trans (hb4.mono hBw)
        have hs4 : B ≤ w4.heap.size := Nat.le_trans hs3 hb4.size
        have b1 : w4.cell? ⟨ob, 1, none⟩ = some (.int .u64 of) := hY4.cell 1
        have b2 : w4.cell? ⟨ob, 2, none⟩ = some (.slice VA ll.length vc) := hY4.cell 2
        have b3 : w4.cell? ⟨ob, 3, none⟩ = some (.bool en_) := hY4.cell 3
        refine hK.out _ _ (by first | exact ⟨z1, z2, z3⟩ | exact ⟨a1, a2, a3⟩ | exact ⟨b1, b2, b3⟩) (fun _ => ?_)
        clear hK K
        try simp only [Act.put, List.setIfInBounds_toArray, List.set_cons_zero, List.set_cons_succ]
        refine wpAnyH_done (by kernel_rfl) ?_ _
        go_wp2_with fail
        go_roundw
        case rel => exact ⟨i + 1, _, by go_num, by omega, hQ4, hI4, hE4, hh4, hB4, hs4⟩
        case measure => simp [intOf]; omega
      · have h30I : ¬ (i : Int) < 30 := by omega
        have hba : Below wr.heap.size wr (wr.alloc (.cells #[.int .u8 d_, .int .u64 of, (.slice VA ll.length vc), .bool en_, .int .i64 mm] 44)) := (Below.refl _ _).alloc (Nat.le_refl _) _
        have HBA := Lib.hid hba
        clear hba
        go_wp2_with fail
        go_roundw
        case rel => exact ⟨i + 1, q, by go_num, by omega, hQ.below HBA.out, hI, hE, by omega, hB.trans (HBA.out.mono hB.size), Nat.le_trans hs HBA.out.size⟩
        case measure => simp [intOf]; omega
    · obtain rfl : i = N := by omega
      obtain ⟨qL, qrd, qhi, qla, qkn⟩ := q
      have hsm9 : hld qL ≤ 1800 := by simp only at hh; omega
      cases qkn with
      | false =>
        clear hE hh
        have hel := end_law hQ
        dsimp only at hel
        have hBI : B ≤ wr.heap.size := hs
        go_wp2_with fail
        (with_reducible refine hel.mono ?_)
        rintro e w3 ⟨rfl, hb3⟩
        have hQ3 := hQ.below hb3
        have hB3 := hB.trans (hb3.mono hB.size)
        have hs3 : B ≤ w3.heap.size := Nat.le_trans hs hb3.size
        have hhl := high_law hQ3
        dsimp only at hhl
        clear hel hQ hb3 hB hs hBI
        go_wp2_with fail
        (with_reducible refine hhl.mono ?_)
        rintro e w4 ⟨rfl, rfl⟩
        have hdl := held_law hQ3 hI
        dsimp only at hdl
        clear hhl
        go_wp2_with fail
        (with_reducible refine hdl.mono ?_)
        rintro e w4 ⟨rfl, hb4⟩
        have hQ4 := hQ3.below hb4
        have hB4 := hB3.trans (hb4.mono hB3.size)
        have hs4 : B ≤ w4.heap.size := Nat.le_trans hs3 hb4.size
        have hcu := cut_any v l 60 w4 (hr.below hB4) (by decide)
        have htk : (l.take 60).length ≤ 60 := by rw [List.length_take]; omega
        have hbt := hby.take 60
        obtain ⟨t, ht⟩ : ∃ t, t = l.take 60 := ⟨_, rfl⟩
        rw [← ht] at hcu htk hbt
        have HT := Lib.hid ht
        clear hdl hQ3 hb4 hB3 hs3 ht
        go_wp2_with fail
        refine hcu.mono ?_
        rintro e w5 ⟨v5, rfl, ho5, hb5⟩
        have hQ5 := hQ4.below hb5
        have hB5 := hB4.trans (hb5.mono hB4.size)
        have hs5 : B ≤ w5.heap.size := Nat.le_trans hs4 hb5.size
        have hp5 := put_law B B _ at_ v5 t en w5 hQ5 hI (Nat.le_trans hsm9 (by decide)) hs5 (rd_of_own (k := .u8) ho5) (by omega) hbt hat
        clear hcu hQ4 hb5 hB4 hs4 ho5
        by_cases he : Q.err ⟨qL, qrd, qhi, qla, false⟩ at_ t en = 0
        · rw [he] at hp5
          go_wp2_with fail
          (with_reducible refine hp5.mono ?_)
          rintro e w6 ⟨rfl, _, hb6, _⟩
          have hB6 := hB5.trans (hb6.mono hBw)
          go_wp2_with fail
          go_ret
          exact ⟨rfl, hB6⟩
        · have hpn := Q.put_no he
          rw [hpn] at hp5
          obtain ⟨c, hc⟩ : ∃ c, c = Q.err ⟨qL, qrd, qhi, qla, false⟩ at_ t en := ⟨_, rfl⟩
          rw [← hc] at hp5 he
          clear hc hpn hQ5
          go_wp2_with fail
          (with_reducible refine hp5.mono ?_)
          rintro e w6 ⟨rfl, hQ6, hb6, _⟩
          have hB6 := hB5.trans (hb6.mono hBw)
          have hel2 := end_law hQ6
          dsimp only at hel2
          clear hp5 hB5 hb6 hs5
          go_wp2_with fail
          (with_reducible refine hel2.mono ?_)
          rintro e w7 ⟨rfl, hb7⟩
          have hQ7 := hQ6.below hb7
          have hB7 := hB6.trans (hb7.mono hB6.size)
          have hhl2 := high_law hQ7
          dsimp only at hhl2
          clear hel2 hQ6 hB6 hb7
          go_wp2_with fail
          (with_reducible refine hhl2.mono ?_)
          rintro e w8 ⟨rfl, rfl⟩
          have hdl2 := held_law hQ7 hI
          dsimp only at hdl2
          clear hhl2
          go_wp2_with fail
          (with_reducible refine hdl2.mono ?_)
          rintro e w8 ⟨rfl, hb8⟩
          go_wp2_with fail
          go_ret
          exact ⟨rfl, hB7.trans (hb8.mono hB7.size)⟩
      | true =>
        have hle : qhi ≤ qla := hE rfl
        clear hE hh
        have hel := end_law hQ
        dsimp only at hel
        have hBI : B ≤ wr.heap.size := hs
        go_wp2_with fail
        (with_reducible refine hel.mono ?_)
        rintro e w3 ⟨rfl, hb3⟩
        have hQ3 := hQ.below hb3
        have hB3 := hB.trans (hb3.mono hB.size)
        have hs3 : B ≤ w3.heap.size := Nat.le_trans hs hb3.size
        have hhl := high_law hQ3
        dsimp only at hhl
        clear hel hQ hb3 hB hs hBI
        go_wp2_with fail
        (with_reducible refine hhl.mono ?_)
        rintro e w4 ⟨rfl, rfl⟩
        have hdl := held_law hQ3 hI
        dsimp only at hdl
        clear hhl
        go_wp2_with fail
        (with_reducible refine hdl.mono ?_)
        rintro e w4 ⟨rfl, hb4⟩
        have hQ4 := hQ3.below hb4
        have hB4 := hB3.trans (hb4.mono hB3.size)
        have hs4 : B ≤ w4.heap.size := Nat.le_trans hs3 hb4.size
        have hcu := cut_any v l 60 w4 (hr.below hB4) (by decide)
        have htk : (l.take 60).length ≤ 60 := by rw [List.length_take]; omega
        have hbt := hby.take 60
        obtain ⟨t, ht⟩ : ∃ t, t = l.take 60 := ⟨_, rfl⟩
        rw [← ht] at hcu htk hbt
        have HT := Lib.hid ht
        clear hdl hQ3 hb4 hB3 hs3 ht
        go_wp2_with fail
        refine hcu.mono ?_
        rintro e w5 ⟨v5, rfl, ho5, hb5⟩
        have hQ5 := hQ4.below hb5
        have hB5 := hB4.trans (hb5.mono hB4.size)
        have hs5 : B ≤ w5.heap.size := Nat.le_trans hs4 hb5.size
        have hp5 := put_law B B _ at_ v5 t en w5 hQ5 hI (Nat.le_trans hsm9 (by decide)) hs5 (rd_of_own (k := .u8) ho5) (by omega) hbt hat
        clear hcu hQ4 hb5 hB4 hs4 ho5
        by_cases he : Q.err ⟨qL, qrd, qhi, qla, true⟩ at_ t en = 0
        · rw [he] at hp5
          go_wp2_with fail
          (with_reducible refine hp5.mono ?_)
          rintro e w6 ⟨rfl, _, hb6, _⟩
          have hB6 := hB5.trans (hb6.mono hBw)
          have hto : at_ + (t.length : Int) ≤ qla := chk_kn he
          have hq63 : at_ + (t.length : Int) ≤ 4611686018427387903 := err_le he
          have hw1 : IntKind.u64.wrap (t.length : Int) = t.length := Go.IntWalk.u64_in _ (by omega)
          have hw2 : IntKind.u64.wrap (at_ + (t.length : Int)) = at_ + t.length := Go.IntWalk.u64_in _ (by omega)
          have hcu2 := cut_any v l 60 w6 (hr.below hB6) (by decide)
          rw [← HT.out] at hcu2
          clear hp5 hQ5 hB5 hb6 hs5 he
          go_wp2_with fail
          refine hcu2.mono ?_
          rintro e w7 ⟨v7, rfl, ho7, hb7⟩
          obtain ⟨A7, c7, rfl, _⟩ := sl_of_own ho7
          clear hcu2 ho7
          go_wp2_with fail
          go_ret
          exact ⟨rfl, hB6.trans (hb7.mono hB6.size)⟩
        · have hpn := Q.put_no he
          rw [hpn] at hp5
          obtain ⟨c, hc⟩ : ∃ c, c = Q.err ⟨qL, qrd, qhi, qla, true⟩ at_ t en := ⟨_, rfl⟩
          rw [← hc] at hp5 he
          clear hc hpn hQ5
          go_wp2_with fail
          (with_reducible refine hp5.mono ?_)
          rintro e w6 ⟨rfl, hQ6, hb6, _⟩
          have hB6 := hB5.trans (hb6.mono hBw)
          have hel2 := end_law hQ6
          dsimp only at hel2
          clear hp5 hB5 hb6 hs5
          go_wp2_with fail
          (with_reducible refine hel2.mono ?_)
          rintro e w7 ⟨rfl, hb7⟩
          have hQ7 := hQ6.below hb7
          have hB7 := hB6.trans (hb7.mono hB6.size)
          have hhl2 := high_law hQ7
          dsimp only at hhl2
          clear hel2 hQ6 hB6 hb7
          go_wp2_with fail
          (with_reducible refine hhl2.mono ?_)
          rintro e w8 ⟨rfl, rfl⟩
          have hdl2 := held_law hQ7 hI
          dsimp only at hdl2
          clear hhl2
          go_wp2_with fail
          (with_reducible refine hdl2.mono ?_)
          rintro e w8 ⟨rfl, hb8⟩
          go_wp2_with fail
          go_ret
          exact ⟨rfl, hB7.trans (hb8.mono hB7.size)⟩
open Go.ChangeShapes Go.WideShapes Go.ChangeAt
set_option maxRecDepth 100000 in
theorem ends_lifted (os : Os) (started : os.Started) (H : Type) (enc : TypeId × Value → H) :
    ReturnsInHanded {} Try.checked os 6 .any (Rows.quiltEndsSpec.pre6 enc Try.prog Try.f6 Rows.quiltEndsRow.domain false) (Rows.quiltEndsSpec.post enc Try.prog Try.f6 false true false false) := by
  refine returnsInHanded_of_change (C := Try.checked) own started (by kernel_rfl) Try.func6
    (ChangeSpec.witness6 (enc := enc) (C := Try.checked) false ⟨#[], #[.slice none 0 0, .int .u64 0, .slice none 0 0, .bool false], []⟩ 8 (by kernel_rfl) (by kernel_rfl) (by kernel_rfl) (by kernel_rfl)) ?_
  intro W base args ds gs before hval0 hW hcnd _
  have hval : ∀ (j : Nat) t v, Try.f6.params[j]? = some t → args[j]? = some v → Value.okWide Try.prog W .any base t v := hval0
  have hW' := hW
  obtain ⟨p, q, hA0, hV, rfl, hfz, hnd⟩ := hW
  have hA : DataW.TrodAll enc Try.prog W 0 (fun _ => true) true Try.f6.params.toList args.toList ds p := hA0
  rw [Try.params6] at hA hval
  obtain ⟨v0, vs0, d0, ds0, p0, q0, hargs, rfl, rfl, h0, r0⟩ := trodAll_cons hA
  obtain ⟨v1, vs1, d1, ds1, p1, q1, rfl, rfl, rfl, h1, r1⟩ := trodAll_cons r0
  obtain ⟨v2, vs2, d2, ds2, p2, q2, rfl, rfl, rfl, h2, r2⟩ := trodAll_cons r1
  obtain ⟨v3, vs3, d3, ds3, p3, q3, rfl, rfl, rfl, h3, r3⟩ := trodAll_cons r2
  obtain ⟨rfl, rfl, rfl⟩ := trodAll_nil r3
  obtain rfl : args = #[v0, v1, v2, v3] := by cases args; simp_all
  obtain ⟨rfl, rfl⟩ := trodVars_none hV
  obtain ⟨A0, len0, cap0, rfl⟩ := okWide_slice Try.underlying41 (hval 0 41 v0 rfl rfl)
  have k0 := h0
  have lt0 : ∀ x ∈ p0, x.block < W.heap.size := by obtain ⟨m, hm⟩ := k0; exact DataW.trod_lt m _ _ _ hm
  obtain ⟨n0, c0, hR0⟩ := ops_of k0
  obtain ⟨a1, rfl, rfl, rfl, w1⟩ := open_int Try.underlying27 (hval 1 27 v1 rfl rfl) h1
  obtain ⟨A2, len2, cap2, rfl⟩ := okWide_slice Try.underlying22 (hval 2 22 v2 rfl rfl)
  have k2 := h2
  have lt2 : ∀ x ∈ p2, x.block < W.heap.size := by obtain ⟨m, hm⟩ := k2; exact DataW.trod_lt m _ _ _ hm
  obtain ⟨l2, hR2, hK2⟩ := bytes_of k2
  obtain ⟨a3, rfl, rfl, rfl⟩ := open_bool Try.underlying4 (hval 3 4 v3 rfl rfl) h3
  clear hA0 hval0
  refine (ends_walk _ _ _ a1 _ l2 a3 W hR0 n0 c0 (bounds_u64 w1) hR2 hK2).mono fun e W' ⟨he, bel⟩ => ?_
  subst he
  exact ⟨_, rfl, _, _, _, [], _, [], hW', trodAll_mk1 (shut_bool Try.underlying4 _), (trodAll_cons_mk (Below.trod laidOut (by kernel_rfl) (of_decide_eq_true (by kernel_rfl)) k0 bel lt0) (trodAll_cons_mk (shut_int Try.underlying27 w1) (trodAll_cons_mk (Below.trod laidOut (by kernel_rfl) (of_decide_eq_true (by kernel_rfl)) k2 bel lt2) (trodAll_cons_mk (shut_bool Try.underlying4 _) trodAll_mk0)))), rfl, bel.frame _, fun h => by cases h⟩

theorem ends_holds : Rows.QuiltEndsSaid :=
  OpenClaim.holds_of_wide 6 Try.f6 rfl rfl rfl rfl rfl rfl rfl ⟨rfl, rfl, rfl, rfl, rfl⟩ rfl rfl rfl rfl rfl (by kernel_rfl) Try.func6 (by kernel_rfl)
    (of_decide_eq_true (by kernel_rfl)) (by unfold Func.isWrapper; first | (rw [if_pos (by decide +kernel)]; kernel_rfl) | (rw [if_neg (by decide +kernel)]; exact ⟨rfl, rfl⟩))
    (fun os started H enc _ => ends_lifted os started H enc)
#print axioms ends_holds

end Go.Proofs.Ytpkondemkpogoaa
