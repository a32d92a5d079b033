/-
  QuiltPlays over nil quilts.
-/
import Derived.Test.YtpkondemkpogoaaRref6
import Derived.Test.YtpkondemkpogoaaQops
namespace Go.Proofs.Ytpkondemkpogoaa
open Go.RowKit
set_option linter.unusedVariables false
set_option linter.unusedSimpArgs false

theorem own_lowN {w : World} {base n size : Nat} {e : TypeId} {v : Value} {xs : List Value} (h : w.ownsRow base e size v n xs) : w.ownsRow 0 e size v n xs := by
  refine ⟨h.1, ?_⟩
  rcases h.2 with h2 | ⟨g, cap, cur, rfl, hg, r⟩
  · exact .inl h2
  · exact .inr ⟨g, cap, cur, rfl, Nat.zero_le _, r⟩
set_option maxHeartbeats 16000000 in
set_option maxRecDepth 100000 in
theorem plays_nil (A : Option Addr) (N cap : Nat) (w : World) (hp : Ops w A N) (hnc : N ≤ cap) (hcm : cap ≤ maxLen) :
    Calls Try.prog 7 #[.bool true, .slice A N cap] w fun e w' => e = .returned (.bool true) ∧ Below w.heap.size w w' := by
  have hcm' : cap ≤ 9223372036854775807 := by unfold maxLen at hcm; omega
  have haw := awake_any w
  go_enter Try.func7, Try.ntmps7
  go_wp2_with fail
  (with_reducible refine haw.mono ?_)
  rintro e w1 ⟨rfl, hB1⟩
  clear haw
  go_wp2_with fail
  (with_reducible refine (new_lawP (fun _ => True) _).mono ?_)
  rintro e w2 ⟨rfl, hQ2, hb2⟩
  have hB2 : Below w.heap.size w w2 := hB1.trans (hb2.mono hB1.size)
  clear hB1 hb2 hQ2
  go_wp2_with fail
  (with_reducible refine (rnew_law w2).mono ?_)
  rintro e w3 ⟨rfl, hX3, hb3⟩
  have hB3 := hB2.trans (hb3.mono hB2.size)
  clear hX3 hB2 hb3
  go_wp2_with fail
  go_loopw [26] (fun s26 wr => ∃ (i : Nat), s26 = .int .i64 i ∧ i ≤ N ∧ Below w.heap.size w wr) (fun s26 _ => N - (intOf s26).toNat)
  case atStart => exact ⟨0, rfl, Nat.zero_le _, hB3⟩
  case round =>
    clear hB3
    obtain ⟨i, rfl, hin, hP⟩ := hrel
    by_cases hi : i < N
    · obtain ⟨b, off, oo, rfl, hbl, hok, hc⟩ := (hp.below hP) i hi
      obtain ⟨d_, of, vv, ll, en_, mm⟩ := oo
      obtain ⟨hdo, hof, ⟨hrv, hbv⟩, hmm⟩ := hok
      simp only at hdo hof hrv hbv hmm
      obtain ⟨VA, vc, rfl⟩ := hrv.form
      have c0 : wr.cell? ⟨b, off + i * 5, none⟩ = some (.int .u8 d_) := hc 0 (by decide)
      have c1 : wr.cell? ⟨b, off + i * 5 + 1, none⟩ = some (.int .u64 of) := hc 1 (by decide)
      have c2 : wr.cell? ⟨b, off + i * 5 + 2, none⟩ = some (.slice VA ll.length vc) := hc 2 (by decide)
      have c3 : wr.cell? ⟨b, off + i * 5 + 3, none⟩ = some (.bool en_) := hc 3 (by decide)
      have c4 : wr.cell? ⟨b, off + i * 5 + 4, none⟩ = some (.int .i64 mm) := hc 4 (by decide)
      have hiI : (i : Int) < (N : Int) := by omega
      clear hc
      have HPP := Lib.hid hp
      clear hp
      by_cases h40 : i < 40
      · have h40I : ¬ (40 : Int) ≤ (i : Int) := by omega
        have htm7 : d_.tmod 7 = d_ % 7 := Int.tmod_eq_emod_of_nonneg hdo.1
        obtain ⟨ob, hob⟩ : ∃ ob, ob = wr.heap.size := ⟨_, rfl⟩
        have hba : Below wr.heap.size wr (wr.alloc (.cells #[.int .u8 d_, .int .u64 of, .slice VA ll.length vc, .bool en_, .int .i64 mm] 44)) := (Below.refl _ _).alloc (Nat.le_refl _) _
        have hYb : Blk (wr.alloc (.cells #[.int .u8 d_, .int .u64 of, .slice VA ll.length vc, .bool en_, .int .i64 mm] 44)) ob 44 #[.int .u8 d_, .int .u64 of, .slice VA ll.length vc, .bool en_, .int .i64 mm] := by rw [hob]; exact Blk.new _ _ _
        have hPb := hP.trans (hba.mono hP.size)
        have hcu := cut_any (.slice VA ll.length vc) ll 60 (wr.alloc (.cells #[.int .u8 d_, .int .u64 of, .slice VA ll.length vc, .bool en_, .int .i64 mm] 44)) (hrv.below hba) (by decide)
        have HY := Lib.hid hYb
        have HPb := Lib.hid hPb
        clear hba hYb hPb hP hrv
        obtain ⟨t, ht⟩ : ∃ t, t = ll.take 60 := ⟨_, rfl⟩
        have htl : t.length ≤ 60 := by rw [ht, List.length_take]; omega
        rw [← ht] at hcu
        clear ht
        go_wp2_with fail
        refine hcu.mono ?_
        rintro e w3 ⟨v3, rfl, ho3, hb3⟩
        rw [← hob]
        have hP3 := HPb.out.trans (hb3.mono HPb.out.size)
        have hY3 := HY.out.same hb3
        have hr3 := rd_of_own (k := .u8) ho3
        obtain ⟨A3, cc3, rfl, _⟩ := sl_of_own ho3
        have hcp := copy_any _ t w3 hr3 (by omega)
        clear hcu HY HPb hb3 hr3 c0 c1 c2 c3 c4 hob
        go_wp2_with fail
        (with_reducible refine hcp.mono ?_)
        rintro e w4 ⟨v4, rfl, ho4, hb4⟩
        have hB4 := hP3.trans (hb4.mono hP3.size)
        have hY4 := hY3.same hb4
        have hO4 := own_same ho3 hb4
        have hs3w : w.heap.size ≤ w3.heap.size := hP3.size
        obtain ⟨A4, cc4, rfl, _⟩ := sl_of_own ho4
        have x0 : w4.cell? ⟨ob, 0, none⟩ = some (.int .u8 d_) := hY4.cell 0
        have c1 : w4.cell? ⟨ob, 1, none⟩ = some (.int .u64 of) := hY4.cell 1
        have c3 : w4.cell? ⟨ob, 3, none⟩ = some (.bool en_) := hY4.cell 3
        have c4 : w4.cell? ⟨ob, 4, none⟩ = some (.int .i64 mm) := hY4.cell 4
        clear hcp hP3 hY3 ho3 hb4
        go_upto_block 2 with (fail)
        go_cut [11, 12, 13, 14, 15, 16, 26] from 26 to 193 (fun s11 s12 s13 s14 s15 s16 s26 wx => s11 = .bool true ∧ s26 = .int .i64 i ∧ Below w.heap.size w wx)
        case first =>
          have hBd : Below w.heap.size w w4.drew := hB4.trans ((below_drewN (Below.refl _ w4) 1).mono hB4.size)
          by_cases hd4 : d_ % 7 = 4
          · go_wp2_with fail
            refine wp_region_held_drew (S := fun w' => w'.cell? ⟨ob, 1, none⟩ = some (.int .u64 of)) (by kernel_rfl) (c1) (fun _ => ?_)
            refine wpAnyH_take (i := 0) (oi := ({ dst := some 75, op := Op.move (Operand.tmp 5), type := 25, pos := _, after := #[], guard := none } : Oper)) (v := ?_) rfl (by kernel_rfl) (by kernel_rfl) (by kernel_rfl) (fun _ _ _ h => h) (Or.inl ⟨by rfl, ?_⟩) (c1) ?_
            rotate_left
            · intro w hSw
              try dsimp only at hSw
              go_simp
              try with_reducible rfl
            try simp only [Act.put, List.setIfInBounds_toArray, List.set_cons_zero, List.set_cons_succ]
            refine wpAnyH_take (i := 1) (oi := ({ dst := some 76, op := Op.fieldAddr 44 (Operand.tmp 8) 1, type := 0, pos := _, after := #[], guard := none } : Oper)) (v := ?_) rfl (by kernel_rfl) (by kernel_rfl) (by kernel_rfl) (fun _ _ _ h => h) (Or.inl ⟨by rfl, ?_⟩) (c1) ?_
            rotate_left
            · intro w hSw
              try dsimp only at hSw
              go_simp
              try with_reducible rfl
            try simp only [Act.put, List.setIfInBounds_toArray, List.set_cons_zero, List.set_cons_succ]
            refine wpAnyH_take (i := 2) (oi := ({ dst := some 77, op := Op.load 27 (Operand.tmp 76), type := 27, pos := _, after := #[{ on := 1, ground := Ground.data }], guard := none } : Oper)) (v := ?_) rfl (by kernel_rfl) (by kernel_rfl) (by kernel_rfl) (fun _ _ _ h => h) (Or.inl ⟨by rfl, ?_⟩) (c1) ?_
            rotate_left
            · intro w hSw
              try dsimp only at hSw
              go_simp
              try with_reducible rfl
            try simp only [Act.put, List.setIfInBounds_toArray, List.set_cons_zero, List.set_cons_succ]
            refine wpAnyH_take (i := 4) (oi := ({ dst := some 79, op := Op.move (Operand.tmp 6), type := 50, pos := _, after := #[], guard := none } : Oper)) (v := ?_) rfl (by kernel_rfl) (by kernel_rfl) (by kernel_rfl) (fun _ _ _ h => h) (Or.inl ⟨by rfl, ?_⟩) (c1) ?_
            rotate_left
            · intro w hSw
              try dsimp only at hSw
              go_simp
              try with_reducible rfl
            try simp only [Act.put, List.setIfInBounds_toArray, List.set_cons_zero, List.set_cons_succ]
            refine wpAnyH_take (i := 5) (oi := ({ dst := some 80, op := Op.fieldAddr 44 (Operand.tmp 8) 1, type := 0, pos := _, after := #[], guard := none } : Oper)) (v := ?_) rfl (by kernel_rfl) (by kernel_rfl) (by kernel_rfl) (fun _ _ _ h => h) (Or.inl ⟨by rfl, ?_⟩) (c1) ?_
            rotate_left
            · intro w hSw
              try dsimp only at hSw
              go_simp
              try with_reducible rfl
            try simp only [Act.put, List.setIfInBounds_toArray, List.set_cons_zero, List.set_cons_succ]
            refine wpAnyH_take (i := 6) (oi := ({ dst := some 81, op := Op.load 27 (Operand.tmp 80), type := 27, pos := _, after := #[{ on := 5, ground := Ground.data }], guard := none } : Oper)) (v := ?_) rfl (by kernel_rfl) (by kernel_rfl) (by kernel_rfl) (fun _ _ _ h => h) (Or.inl ⟨by rfl, ?_⟩) (c1) ?_
            rotate_left
            · intro w hSw
              try dsimp only at hSw
              go_simp
              try with_reducible rfl
            try simp only [Act.put, List.setIfInBounds_toArray, List.set_cons_zero, List.set_cons_succ]
            refine wpAnyH_ready (rs := [3]) (by kernel_rfl) (by simp) ?_
            refine AllReadyH.cons (o := ({ dst := some 78, op := Op.call { callee := Callee.value (Operand.func 23), args := #[Operand.tmp 75, Operand.tmp 77], argTypes := #[25, 27] }, type := 28, pos := _, after := #[{ on := 0, ground := Ground.data }, { on := 2, ground := Ground.data }], guard := none } : Oper)) rfl (fun K hK => ?_) AllReadyH.nil
            go_simp
            go_at_call 23
            refine (close_nilq of w4.drew).mono ?_
            rintro e w5 ⟨rfl, rfl⟩
            refine hK.out _ _ (c1) (fun _ => ?_)
            clear hK K
            try simp only [Act.put, List.setIfInBounds_toArray, List.set_cons_zero, List.set_cons_succ]
            refine wpAnyH_ready (rs := [7]) (by kernel_rfl) (by simp) ?_
            refine AllReadyH.cons (o := ({ dst := some 82, op := Op.call { callee := Callee.value (Operand.func 24), args := #[Operand.tmp 79, Operand.tmp 81, Operand.const (Value.slice none 0 0), Operand.const (Value.bool true)], argTypes := #[50, 27, 22, 4] }, type := 3, pos := _, after := #[{ on := 4, ground := Ground.data }, { on := 6, ground := Ground.data }, { on := 3, ground := Ground.chain }], guard := none } : Oper)) rfl (fun K hK => ?_) AllReadyH.nil
            go_simp
            go_at_call 24
            refine (rput_nil of (.slice none 0 0) true w4.drew).mono ?_
            rintro e w6 ⟨rfl, rfl⟩
            refine hK.out _ _ (c1) (fun _ => ?_)
            clear hK K
            try simp only [Act.put, List.setIfInBounds_toArray, List.set_cons_zero, List.set_cons_succ]
            refine wpAnyH_take (i := 8) (oi := ({ dst := some 83, op := Op.binOp BinOp.eql 3 (Operand.tmp 78) (Operand.tmp 82) 3, type := 4, pos := _, after := #[{ on := 3, ground := Ground.data }, { on := 7, ground := Ground.data }], guard := none } : Oper)) (v := ?_) rfl (by kernel_rfl) (by kernel_rfl) (by kernel_rfl) (fun _ _ _ h => h) (Or.inl ⟨by rfl, ?_⟩) (c1) ?_
            rotate_left
            · intro w hSw
              try dsimp only at hSw
              go_simp
              try with_reducible rfl
            try simp only [Act.put, List.setIfInBounds_toArray, List.set_cons_zero, List.set_cons_succ]
            refine wpAnyH_take (i := 9) (oi := ({ dst := some 11, op := Op.assign (Operand.tmp 83), type := 4, pos := _, after := #[{ on := 8, ground := Ground.data }, { on := 7, ground := Ground.chain }, { on := 0, ground := Ground.phase }, { on := 1, ground := Ground.phase }, { on := 2, ground := Ground.phase }, { on := 3, ground := Ground.phase }, { on := 4, ground := Ground.phase }, { on := 5, ground := Ground.phase }, { on := 6, ground := Ground.phase }, { on := 7, ground := Ground.phase }, { on := 8, ground := Ground.phase }], guard := none } : Oper)) (v := ?_) rfl (by kernel_rfl) (by kernel_rfl) (by kernel_rfl) (fun _ _ _ h => h) (Or.inl ⟨by rfl, ?_⟩) (c1) ?_
            rotate_left
            · intro w hSw
              try dsimp only at hSw
              go_simp
              try with_reducible rfl
            try simp only [Act.put, List.setIfInBounds_toArray, List.set_cons_zero, List.set_cons_succ]
            refine wpAnyH_done (by kernel_rfl) ?_ _
            go_wp2_with fail
            go_meet
            case rel => exact ⟨rfl, rfl, hBd⟩
          · by_cases hd5 : 5 ≤ d_ % 7
            · have h56 : d_ % 7 = 5 ∨ d_ % 7 = 6 := by omega
              rcases h56 with h56 | h56
              · go_wp2_with fail
                refine (take_nil mm w4).mono ?_
                rintro e w5 ⟨rfl, rfl⟩
                go_wp2_with fail
                refine (rtake_nil mm w4).mono ?_
                rintro e w6 ⟨rfl, rfl⟩
                go_wp2_with fail
                refine (same_yes _ _ [] w4 (Rd.nil _ _) (Rd.nil _ _)).mono ?_
                rintro e w7 ⟨rfl, rfl⟩
                go_wp2_with fail
                go_meet
                case rel => exact ⟨rfl, rfl, hB4⟩
              · go_wp2_with fail
                refine (take_nil mm w4).mono ?_
                rintro e w5 ⟨rfl, rfl⟩
                go_wp2_with fail
                refine (rtake_nil mm w4).mono ?_
                rintro e w6 ⟨rfl, rfl⟩
                go_wp2_with fail
                refine (same_yes _ _ [] w4 (Rd.nil _ _) (Rd.nil _ _)).mono ?_
                rintro e w7 ⟨rfl, rfl⟩
                go_wp2_with fail
                go_meet
                case rel => exact ⟨rfl, rfl, hB4⟩
            · have hdl : d_ % 7 < 4 := by omega
              have hod : w4.drew.ownsRow w3.heap.size 5 1 (.slice A4 t.length cc4) t.length (t.map (Value.int .u8)) := ho4
              have hOd : w4.drew.ownsRow 0 5 1 (.slice A3 t.length cc3) t.length (t.map (Value.int .u8)) := own_lowN hO4
              have hmid : OwnM w4.drew w3.heap.size 5 1 (.slice A4 t.length cc4) t.length (t.map (Value.int .u8)) := mid_of_own hod
              go_wp2_with fail
              refine wp_region_held_drew (S := fun w' => w'.cell? ⟨ob, 1, none⟩ = some (.int .u64 of) ∧ w'.cell? ⟨ob, 3, none⟩ = some (.bool en_)) (by kernel_rfl) (⟨c1, c3⟩) (fun _ => ?_)
              refine wpAnyH_take (i := 0) (oi := ({ dst := some 41, op := Op.move (Operand.tmp 5), type := 25, pos := _, after := #[], guard := none } : Oper)) (v := ?_) rfl (by kernel_rfl) (by kernel_rfl) (by kernel_rfl) (fun _ _ _ h => h) (Or.inl ⟨by rfl, ?_⟩) (⟨c1, c3⟩) ?_
              rotate_left
              · intro w hSw
                try dsimp only at hSw
                go_simp
                try with_reducible rfl
              try simp only [Act.put, List.setIfInBounds_toArray, List.set_cons_zero, List.set_cons_succ]
              refine wpAnyH_take (i := 1) (oi := ({ dst := some 42, op := Op.fieldAddr 44 (Operand.tmp 8) 1, type := 0, pos := _, after := #[], guard := none } : Oper)) (v := ?_) rfl (by kernel_rfl) (by kernel_rfl) (by kernel_rfl) (fun _ _ _ h => h) (Or.inl ⟨by rfl, ?_⟩) (⟨c1, c3⟩) ?_
              rotate_left
              · intro w hSw
                try dsimp only at hSw
                go_simp
                try with_reducible rfl
              try simp only [Act.put, List.setIfInBounds_toArray, List.set_cons_zero, List.set_cons_succ]
              refine wpAnyH_take (i := 2) (oi := ({ dst := some 43, op := Op.load 27 (Operand.tmp 42), type := 27, pos := _, after := #[{ on := 1, ground := Ground.data }], guard := none } : Oper)) (v := ?_) rfl (by kernel_rfl) (by kernel_rfl) (by kernel_rfl) (fun _ _ _ h => h) (Or.inl ⟨by rfl, ?_⟩) (⟨c1, c3⟩) ?_
              rotate_left
              · intro w hSw
                try dsimp only at hSw
                go_simp
                try with_reducible rfl
              try simp only [Act.put, List.setIfInBounds_toArray, List.set_cons_zero, List.set_cons_succ]
              refine wpAnyH_take (i := 3) (oi := ({ dst := some 44, op := Op.move (Operand.tmp 10), type := 22, pos := _, after := #[], guard := none } : Oper)) (v := ?_) rfl (by kernel_rfl) (by kernel_rfl) (by kernel_rfl) (fun _ _ _ h => h) (Or.inl ⟨by rfl, ?_⟩) (⟨c1, c3⟩) ?_
              rotate_left
              · intro w hSw
                try dsimp only at hSw
                go_simp
                try with_reducible rfl
              try simp only [Act.put, List.setIfInBounds_toArray, List.set_cons_zero, List.set_cons_succ]
              refine wpAnyH_take (i := 4) (oi := ({ dst := some 45, op := Op.fieldAddr 44 (Operand.tmp 8) 3, type := 0, pos := _, after := #[], guard := none } : Oper)) (v := ?_) rfl (by kernel_rfl) (by kernel_rfl) (by kernel_rfl) (fun _ _ _ h => h) (Or.inl ⟨by rfl, ?_⟩) (⟨c1, c3⟩) ?_
              rotate_left
              · intro w hSw
                try dsimp only at hSw
                go_simp
                try with_reducible rfl
              try simp only [Act.put, List.setIfInBounds_toArray, List.set_cons_zero, List.set_cons_succ]
              refine wpAnyH_take (i := 5) (oi := ({ dst := some 46, op := Op.load 4 (Operand.tmp 45), type := 4, pos := _, after := #[{ on := 4, ground := Ground.data }], guard := none } : Oper)) (v := ?_) rfl (by kernel_rfl) (by kernel_rfl) (by kernel_rfl) (fun _ _ _ h => h) (Or.inl ⟨by rfl, ?_⟩) (⟨c1, c3⟩) ?_
              rotate_left
              · intro w hSw
                try dsimp only at hSw
                go_simp
                try with_reducible rfl
              try simp only [Act.put, List.setIfInBounds_toArray, List.set_cons_zero, List.set_cons_succ]
              refine wpAnyH_take (i := 7) (oi := ({ dst := some 48, op := Op.move (Operand.tmp 6), type := 50, pos := _, after := #[], guard := none } : Oper)) (v := ?_) rfl (by kernel_rfl) (by kernel_rfl) (by kernel_rfl) (fun _ _ _ h => h) (Or.inl ⟨by rfl, ?_⟩) (⟨c1, c3⟩) ?_
              rotate_left
              · intro w hSw
                try dsimp only at hSw
                go_simp
                try with_reducible rfl
              try simp only [Act.put, List.setIfInBounds_toArray, List.set_cons_zero, List.set_cons_succ]
              refine wpAnyH_take (i := 8) (oi := ({ dst := some 49, op := Op.fieldAddr 44 (Operand.tmp 8) 1, type := 0, pos := _, after := #[], guard := none } : Oper)) (v := ?_) rfl (by kernel_rfl) (by kernel_rfl) (by kernel_rfl) (fun _ _ _ h => h) (Or.inl ⟨by rfl, ?_⟩) (⟨c1, c3⟩) ?_
              rotate_left
              · intro w hSw
                try dsimp only at hSw
                go_simp
                try with_reducible rfl
              try simp only [Act.put, List.setIfInBounds_toArray, List.set_cons_zero, List.set_cons_succ]
              refine wpAnyH_take (i := 9) (oi := ({ dst := some 50, op := Op.load 27 (Operand.tmp 49), type := 27, pos := _, after := #[{ on := 8, ground := Ground.data }], guard := none } : Oper)) (v := ?_) rfl (by kernel_rfl) (by kernel_rfl) (by kernel_rfl) (fun _ _ _ h => h) (Or.inl ⟨by rfl, ?_⟩) (⟨c1, c3⟩) ?_
              rotate_left
              · intro w hSw
                try dsimp only at hSw
                go_simp
                try with_reducible rfl
              try simp only [Act.put, List.setIfInBounds_toArray, List.set_cons_zero, List.set_cons_succ]
              refine wpAnyH_take (i := 10) (oi := ({ dst := some 51, op := Op.move (Operand.tmp 9), type := 22, pos := _, after := #[], guard := none } : Oper)) (v := ?_) rfl (by kernel_rfl) (by kernel_rfl) (by kernel_rfl) (fun _ _ _ h => h) (Or.inl ⟨by rfl, ?_⟩) (⟨c1, c3⟩) ?_
              rotate_left
              · intro w hSw
                try dsimp only at hSw
                go_simp
                try with_reducible rfl
              try simp only [Act.put, List.setIfInBounds_toArray, List.set_cons_zero, List.set_cons_succ]
              refine wpAnyH_take (i := 11) (oi := ({ dst := some 52, op := Op.fieldAddr 44 (Operand.tmp 8) 3, type := 0, pos := _, after := #[], guard := none } : Oper)) (v := ?_) rfl (by kernel_rfl) (by kernel_rfl) (by kernel_rfl) (fun _ _ _ h => h) (Or.inl ⟨by rfl, ?_⟩) (⟨c1, c3⟩) ?_
              rotate_left
              · intro w hSw
                try dsimp only at hSw
                go_simp
                try with_reducible rfl
              try simp only [Act.put, List.setIfInBounds_toArray, List.set_cons_zero, List.set_cons_succ]
              refine wpAnyH_take (i := 12) (oi := ({ dst := some 53, op := Op.load 4 (Operand.tmp 52), type := 4, pos := _, after := #[{ on := 11, ground := Ground.data }], guard := none } : Oper)) (v := ?_) rfl (by kernel_rfl) (by kernel_rfl) (by kernel_rfl) (fun _ _ _ h => h) (Or.inl ⟨by rfl, ?_⟩) (⟨c1, c3⟩) ?_
              rotate_left
              · intro w hSw
                try dsimp only at hSw
                go_simp
                try with_reducible rfl
              try simp only [Act.put, List.setIfInBounds_toArray, List.set_cons_zero, List.set_cons_succ]
              refine wpAnyH_ready (rs := [6]) (by kernel_rfl) (by simp) ?_
              refine AllReadyH.cons (o := ({ dst := some 47, op := Op.call { callee := Callee.value (Operand.func 11), args := #[Operand.tmp 41, Operand.tmp 43, Operand.tmp 44, Operand.tmp 46], argTypes := #[25, 27, 22, 4] }, type := 28, pos := _, after := #[{ on := 0, ground := Ground.data }, { on := 2, ground := Ground.data }, { on := 3, ground := Ground.data }, { on := 5, ground := Ground.data }], guard := none } : Oper)) rfl (fun K hK => ?_) AllReadyH.nil
              go_simp
              go_at_call 11
              refine (put_nilq of _ t en_ w4.drew (rd_of_own (k := .u8) hod)).mono ?_
              rintro e w5 ⟨rfl, rfl⟩
              refine hK.out _ _ (⟨c1, c3⟩) (fun _ => ?_)
              clear hK K
              try simp only [Act.put, List.setIfInBounds_toArray, List.set_cons_zero, List.set_cons_succ]
              refine wpAnyH_ready (rs := [13]) (by kernel_rfl) (by simp) ?_
              refine AllReadyH.cons (o := ({ dst := some 54, op := Op.call { callee := Callee.value (Operand.func 24), args := #[Operand.tmp 48, Operand.tmp 50, Operand.tmp 51, Operand.tmp 53], argTypes := #[50, 27, 22, 4] }, type := 3, pos := _, after := #[{ on := 7, ground := Ground.data }, { on := 9, ground := Ground.data }, { on := 10, ground := Ground.data }, { on := 12, ground := Ground.data }, { on := 6, ground := Ground.chain }], guard := none } : Oper)) rfl (fun K hK => ?_) AllReadyH.nil
              go_simp
              go_at_call 24
              refine (rput_nil of _ en_ w4.drew).mono ?_
              rintro e w6 ⟨rfl, rfl⟩
              refine hK.out _ _ (⟨c1, c3⟩) (fun _ => ?_)
              clear hK K
              try simp only [Act.put, List.setIfInBounds_toArray, List.set_cons_zero, List.set_cons_succ]
              refine wpAnyH_take (i := 14) (oi := ({ dst := some 55, op := Op.binOp BinOp.eql 3 (Operand.tmp 47) (Operand.tmp 54) 3, type := 4, pos := _, after := #[{ on := 6, ground := Ground.data }, { on := 13, ground := Ground.data }], guard := none } : Oper)) (v := ?_) rfl (by kernel_rfl) (by kernel_rfl) (by kernel_rfl) (fun _ _ _ h => h) (Or.inl ⟨by rfl, ?_⟩) (⟨c1, c3⟩) ?_
              rotate_left
              · intro w hSw
                try dsimp only at hSw
                go_simp
                try with_reducible rfl
              try simp only [Act.put, List.setIfInBounds_toArray, List.set_cons_zero, List.set_cons_succ]
              refine wpAnyH_take (i := 15) (oi := ({ dst := some 56, op := Op.move (Operand.tmp 55), type := 4, pos := _, after := #[{ on := 14, ground := Ground.data }, { on := 13, ground := Ground.chain }], guard := none } : Oper)) (v := ?_) rfl (by kernel_rfl) (by kernel_rfl) (by kernel_rfl) (fun _ _ _ h => h) (Or.inl ⟨by rfl, ?_⟩) (⟨c1, c3⟩) ?_
              rotate_left
              · intro w hSw
                try dsimp only at hSw
                go_simp
                try with_reducible rfl
              try simp only [Act.put, List.setIfInBounds_toArray, List.set_cons_zero, List.set_cons_succ]
              refine wpAnyH_take (i := 16) (oi := ({ dst := some 57, op := Op.move (Operand.tmp 10), type := 22, pos := _, after := #[{ on := 15, ground := Ground.guard }], guard := some (15, true) } : Oper)) (v := ?_) rfl (by kernel_rfl) (by kernel_rfl) (by kernel_rfl) (fun _ _ _ h => h) (Or.inl ⟨by rfl, ?_⟩) (⟨c1, c3⟩) ?_
              rotate_left
              · intro w hSw
                try dsimp only at hSw
                go_simp
                try with_reducible rfl
              try simp only [Act.put, List.setIfInBounds_toArray, List.set_cons_zero, List.set_cons_succ]
              refine wpAnyH_take (i := 17) (oi := ({ dst := some 58, op := Op.move (Operand.tmp 9), type := 22, pos := _, after := #[{ on := 15, ground := Ground.guard }], guard := some (15, true) } : Oper)) (v := ?_) rfl (by kernel_rfl) (by kernel_rfl) (by kernel_rfl) (fun _ _ _ h => h) (Or.inl ⟨by rfl, ?_⟩) (⟨c1, c3⟩) ?_
              rotate_left
              · intro w hSw
                try dsimp only at hSw
                go_simp
                try with_reducible rfl
              try simp only [Act.put, List.setIfInBounds_toArray, List.set_cons_zero, List.set_cons_succ]
              refine wpAnyH_ready (rs := [18]) (by kernel_rfl) (by simp) ?_
              refine AllReadyH.cons (o := ({ dst := some 59, op := Op.call { callee := Callee.value (Operand.func 14), args := #[Operand.tmp 57, Operand.tmp 58], argTypes := #[22, 22] }, type := 4, pos := _, after := #[{ on := 16, ground := Ground.data }, { on := 17, ground := Ground.data }, { on := 15, ground := Ground.chain }, { on := 15, ground := Ground.guard }], guard := some (15, true) } : Oper)) rfl (fun K hK => ?_) AllReadyH.nil
              go_simp
              go_at_call 14
              refine (same_yes _ _ t w4.drew (rd_of_own (k := .u8) hod) (rd_of_own (k := .u8) hOd)).mono ?_
              rintro e w7 ⟨rfl, rfl⟩
              refine hK.out _ _ (⟨c1, c3⟩) (fun _ => ?_)
              clear hK K
              try simp only [Act.put, List.setIfInBounds_toArray, List.set_cons_zero, List.set_cons_succ]
              refine wpAnyH_take (i := 19) (oi := ({ dst := some 60, op := Op.pick (Operand.tmp 56) (Operand.tmp 59) (Operand.const (Value.bool false)), type := 4, pos := _, after := #[{ on := 15, ground := Ground.data }, { on := 18, ground := Ground.data }], guard := none } : Oper)) (v := ?_) rfl (by kernel_rfl) (by kernel_rfl) (by kernel_rfl) (fun _ _ _ h => h) (Or.inl ⟨by rfl, ?_⟩) (⟨c1, c3⟩) ?_
              rotate_left
              · intro w hSw
                try dsimp only at hSw
                go_simp
                try with_reducible rfl
              try simp only [Act.put, List.setIfInBounds_toArray, List.set_cons_zero, List.set_cons_succ]
              refine wpAnyH_take (i := 20) (oi := ({ dst := some 11, op := Op.assign (Operand.tmp 60), type := 4, pos := _, after := #[{ on := 19, ground := Ground.data }, { on := 18, ground := Ground.chain }, { on := 0, ground := Ground.phase }, { on := 1, ground := Ground.phase }, { on := 2, ground := Ground.phase }, { on := 3, ground := Ground.phase }, { on := 4, ground := Ground.phase }, { on := 5, ground := Ground.phase }, { on := 6, ground := Ground.phase }, { on := 7, ground := Ground.phase }, { on := 8, ground := Ground.phase }, { on := 9, ground := Ground.phase }, { on := 10, ground := Ground.phase }, { on := 11, ground := Ground.phase }, { on := 12, ground := Ground.phase }, { on := 13, ground := Ground.phase }, { on := 14, ground := Ground.phase }, { on := 15, ground := Ground.phase }, { on := 16, ground := Ground.phase }, { on := 17, ground := Ground.phase }, { on := 18, ground := Ground.phase }, { on := 19, ground := Ground.phase }], guard := none } : Oper)) (v := ?_) rfl (by kernel_rfl) (by kernel_rfl) (by kernel_rfl) (fun _ _ _ h => h) (Or.inl ⟨by rfl, ?_⟩) (⟨c1, c3⟩) ?_
              rotate_left
              · intro w hSw
                try dsimp only at hSw
                go_simp
                try with_reducible rfl
              try simp only [Act.put, List.setIfInBounds_toArray, List.set_cons_zero, List.set_cons_succ]
              refine wpAnyH_done (by kernel_rfl) ?_ _
              clear hod hOd hO4 ho4 hY4 x0 c1 c3 c4 hB4
              go_wp2_with fail
              go_loopw [63] (fun s63 wx => ∃ (k : Nat) (xs : List Int), s63 = .int .i64 k ∧ k ≤ t.length ∧ xs.length = t.length ∧ OwnM wx w3.heap.size 5 1 (.slice A4 t.length cc4) t.length (xs.map (Value.int .u8)) ∧ Below w.heap.size w wx) (fun s63 _ => t.length - (intOf s63).toNat)
              case atStart => exact ⟨0, t, rfl, Nat.zero_le _, rfl, hmid, hBd⟩
              case round =>
                clear hmid hBd
                obtain ⟨k, xs, rfl, hk, hxl, hmid, hB6⟩ := hrel
                by_cases hkl : k < t.length
                · have hkI : (k : Int) < (t.length : Int) := by omega
                  obtain ⟨⟨_, hsl⟩, hnn⟩ := hmid.rdv
                  rcases A4 with _ | a4
                  · exact absurd (hnn rfl) (by omega)
                  obtain ⟨g4, o4, rfl, hgb, hgl, hfz⟩ := hmid.free
                  obtain ⟨g5, o5, e5, _, hcc⟩ := hsl k hkl
                  have e5' : g5 = g4 ∧ o5 = o4 := by simpa using e5.symm
                  obtain ⟨rfl, rfl⟩ := e5'
                  obtain ⟨x, hx⟩ : ∃ x, x = xs.getD k 0 := ⟨_, rfl⟩
                  have hcell : World.cell? wr ⟨g5, o5 + k, none⟩ = some (.int .u8 x) := by
                    have h1 := hcc 0 (by decide)
                    rw [show o5 + (k * 1 + 0) = o5 + k by omega] at h1
                    rw [h1, hx]
                    simp [List.getD, List.getElem?_eq_getElem (show k < xs.length by omega)]
                  have hfk := hfz (o5 + k)
                  have HMID := Lib.hid hmid
                  have HB := Lib.hid hB6
                  clear hmid hB6 hsl hcc hfz e5 hx hnn
                  go_wp2_with fail
                  obtain ⟨u, hu⟩ : ∃ u, u = bits .xor .u8 x 1 := ⟨_, rfl⟩
                  rw [← hu]
                  have hgF := grown_set (grown_refl wr (some g5)) (o5 + k) (.int .u8 u)
                  have hm2 := HMID.out.put k (by omega) (.int .u8 u)
                  rw [← List.map_set] at hm2
                  have hB7 := HB.out.grown hgF HB.out.size (fun m hm => by simp only [Option.some.injEq] at hm; omega)
                  go_roundw
                  case rel => exact ⟨k + 1, xs.set k u, by go_num, by omega, by rw [List.length_set]; exact hxl, hm2, hB7⟩
                  case measure => simp [intOf]; omega
                · obtain rfl : k = t.length := by omega
                  go_wp2_with fail
                  go_meet
                  case rel => exact ⟨rfl, rfl, hB6⟩
        case rest =>
          clear hB4 hY4 hO4 ho4 x0 c1 c3 c4
          obtain ⟨rfl, rfl, hP⟩ := hcut
          go_wp2_with fail
          refine (ready_nil _).mono ?_
          rintro e wa ⟨rfl, rfl⟩
          go_wp2_with fail
          refine (rready_nil _).mono ?_
          rintro e wa ⟨rfl, rfl⟩
          go_wp2_with fail
          refine (held_nil _).mono ?_
          rintro e wa ⟨rfl, rfl⟩
          go_wp2_with fail
          refine (rheld_nil _).mono ?_
          rintro e wa ⟨rfl, rfl⟩
          go_wp2_with fail
          refine (done_nil _).mono ?_
          rintro e wf ⟨rfl, m1, hm1⟩
          have hPf : Below w.heap.size w wf := by rw [← hm1]; exact below_drewN hP m1
          clear hP hm1
          go_wp2_with fail
          refine (rdone_nil _).mono ?_
          rintro e wg ⟨rfl, m2, hm2⟩
          have hPg : Below w.heap.size w wg := by rw [← hm2]; exact below_drewN hPf m2
          clear hPf hm2
          go_wp2_with fail
          refine (end_nil _).mono ?_
          rintro e wh ⟨rfl, rfl⟩
          have hPz : Below w.heap.size w wg.drew := below_drewN hPg 1
          go_wp2_with fail
          refine wp_region_held_drew (S := fun _ => True) (by kernel_rfl) (trivial) (fun _ => ?_)
          refine wpAnyH_take (i := 0) (oi := ({ dst := some 137, op := Op.move (Operand.tmp 6), type := 50, pos := _, after := #[], guard := none } : Oper)) (v := ?_) rfl (by kernel_rfl) (by kernel_rfl) (by kernel_rfl) (fun _ _ _ h => h) (Or.inl ⟨by rfl, ?_⟩) (trivial) ?_
          rotate_left
          · intro w hSw
            try dsimp only at hSw
            go_simp
            try with_reducible rfl
          try simp only [Act.put, List.setIfInBounds_toArray, List.set_cons_zero, List.set_cons_succ]
          refine wpAnyH_take (i := 1) (oi := ({ dst := some 138, op := Op.binOp BinOp.eql 50 (Operand.tmp 137) (Operand.const (Value.pointer none)) 50, type := 4, pos := _, after := #[{ on := 0, ground := Ground.data }], guard := none } : Oper)) (v := ?_) rfl (by kernel_rfl) (by kernel_rfl) (by kernel_rfl) (fun _ _ _ h => h) (Or.inl ⟨by rfl, ?_⟩) (trivial) ?_
          rotate_left
          · intro w hSw
            try dsimp only at hSw
            go_simp
            try with_reducible rfl
          try simp only [Act.put, List.setIfInBounds_toArray, List.set_cons_zero, List.set_cons_succ]
          refine wpAnyH_take (i := 2) (oi := ({ dst := some 139, op := Op.move (Operand.tmp 138), type := 4, pos := _, after := #[{ on := 1, ground := Ground.data }], guard := none } : Oper)) (v := ?_) rfl (by kernel_rfl) (by kernel_rfl) (by kernel_rfl) (fun _ _ _ h => h) (Or.inl ⟨by rfl, ?_⟩) (trivial) ?_
          rotate_left
          · intro w hSw
            try dsimp only at hSw
            go_simp
            try with_reducible rfl
          try simp only [Act.put, List.setIfInBounds_toArray, List.set_cons_zero, List.set_cons_succ]
          refine wpAnyH_take (i := 3) (oi := ({ dst := some 140, op := Op.move (Operand.tmp 5), type := 25, pos := _, after := #[{ on := 2, ground := Ground.guard }], guard := some (2, true) } : Oper)) (v := ?_) rfl (by kernel_rfl) (by kernel_rfl) (by kernel_rfl) (fun _ _ _ h => h) (Or.inl ⟨by rfl, ?_⟩) (trivial) ?_
          rotate_left
          · intro w hSw
            try dsimp only at hSw
            go_simp
            try with_reducible rfl
          try simp only [Act.put, List.setIfInBounds_toArray, List.set_cons_zero, List.set_cons_succ]
          refine wpAnyH_ready (rs := [4]) (by kernel_rfl) (by simp) ?_
          refine AllReadyH.cons (o := ({ dst := some 141, op := Op.call { callee := Callee.value (Operand.func 21), args := #[Operand.tmp 140], argTypes := #[25] }, type := 27, pos := _, after := #[{ on := 3, ground := Ground.data }, { on := 2, ground := Ground.chain }, { on := 2, ground := Ground.guard }], guard := some (2, true) } : Oper)) rfl (fun K hK => ?_) AllReadyH.nil
          go_simp
          go_at_call 21
          refine (high_nil _).mono ?_
          rintro e wz ⟨rfl, rfl⟩
          refine hK.out _ _ (trivial) (fun _ => ?_)
          clear hK K
          try simp only [Act.put, List.setIfInBounds_toArray, List.set_cons_zero, List.set_cons_succ]
          refine wpAnyH_take (i := 5) (oi := ({ dst := some 142, op := Op.binOp BinOp.neq 27 (Operand.tmp 141) (Operand.const (Value.int IntKind.u64 0)) 27, type := 4, pos := _, after := #[{ on := 4, ground := Ground.data }, { on := 2, ground := Ground.guard }], guard := some (2, true) } : Oper)) (v := ?_) rfl (by kernel_rfl) (by kernel_rfl) (by kernel_rfl) (fun _ _ _ h => h) (Or.inl ⟨by rfl, ?_⟩) (trivial) ?_
          rotate_left
          · intro w hSw
            try dsimp only at hSw
            go_simp
            try with_reducible rfl
          try simp only [Act.put, List.setIfInBounds_toArray, List.set_cons_zero, List.set_cons_succ]
          refine wpAnyH_take (i := 6) (oi := ({ dst := some 143, op := Op.move (Operand.tmp 142), type := 4, pos := _, after := #[{ on := 5, ground := Ground.data }, { on := 4, ground := Ground.chain }, { on := 2, ground := Ground.guard }], guard := some (2, true) } : Oper)) (v := ?_) rfl (by kernel_rfl) (by kernel_rfl) (by kernel_rfl) (fun _ _ _ h => h) (Or.inl ⟨by rfl, ?_⟩) (trivial) ?_
          rotate_left
          · intro w hSw
            try dsimp only at hSw
            go_simp
            try with_reducible rfl
          try simp only [Act.put, List.setIfInBounds_toArray, List.set_cons_zero, List.set_cons_succ]
          refine wpAnyH_take (i := 7) (oi := ({ dst := some 144, op := Op.move (Operand.tmp 18), type := 4, pos := _, after := #[{ on := 6, ground := Ground.guard }], guard := some (6, false) } : Oper)) (v := ?_) rfl (by kernel_rfl) (by kernel_rfl) (by kernel_rfl) (fun _ _ _ h => h) (Or.inl ⟨by rfl, ?_⟩) (trivial) ?_
          rotate_left
          · intro w hSw
            try dsimp only at hSw
            go_simp
            try with_reducible rfl
          try simp only [Act.put, List.setIfInBounds_toArray, List.set_cons_zero, List.set_cons_succ]
          refine wpAnyH_take (i := 8) (oi := ({ dst := some 145, op := Op.pick (Operand.tmp 143) (Operand.const (Value.bool true)) (Operand.tmp 144), type := 4, pos := _, after := #[{ on := 6, ground := Ground.data }, { on := 7, ground := Ground.data }, { on := 2, ground := Ground.guard }], guard := some (2, true) } : Oper)) (v := ?_) rfl (by kernel_rfl) (by kernel_rfl) (by kernel_rfl) (fun _ _ _ h => h) (Or.inl ⟨by rfl, ?_⟩) (trivial) ?_
          rotate_left
          · intro w hSw
            try dsimp only at hSw
            go_simp
            try with_reducible rfl
          try simp only [Act.put, List.setIfInBounds_toArray, List.set_cons_zero, List.set_cons_succ]
          refine wpAnyH_take (i := 9) (oi := ({ dst := some 146, op := Op.move (Operand.tmp 145), type := 4, pos := _, after := #[{ on := 8, ground := Ground.data }, { on := 6, ground := Ground.chain }, { on := 2, ground := Ground.guard }], guard := some (2, true) } : Oper)) (v := ?_) rfl (by kernel_rfl) (by kernel_rfl) (by kernel_rfl) (fun _ _ _ h => h) (Or.inl ⟨by rfl, ?_⟩) (trivial) ?_
          rotate_left
          · intro w hSw
            try dsimp only at hSw
            go_simp
            try with_reducible rfl
          try simp only [Act.put, List.setIfInBounds_toArray, List.set_cons_zero, List.set_cons_succ]
          refine wpAnyH_take (i := 10) (oi := ({ dst := some 147, op := Op.move (Operand.tmp 5), type := 25, pos := _, after := #[{ on := 9, ground := Ground.guard }], guard := some (9, false) } : Oper)) (v := ?_) rfl (by kernel_rfl) (by kernel_rfl) (by kernel_rfl) (fun _ _ _ h => h) (Or.inl ⟨by rfl, ?_⟩) (trivial) ?_
          rotate_left
          · intro w hSw
            try dsimp only at hSw
            go_simp
            try with_reducible rfl
          try simp only [Act.put, List.setIfInBounds_toArray, List.set_cons_zero, List.set_cons_succ]
          refine wpAnyH_ready (rs := [11]) (by kernel_rfl) (by simp) ?_
          refine AllReadyH.cons (o := ({ dst := some 148, op := Op.call { callee := Callee.value (Operand.func 18), args := #[Operand.tmp 147], argTypes := #[25] }, type := 27, pos := _, after := #[{ on := 10, ground := Ground.data }, { on := 9, ground := Ground.chain }, { on := 9, ground := Ground.guard }], guard := some (9, false) } : Oper)) rfl (fun K hK => ?_) AllReadyH.nil
          go_simp
          go_at_call 18
          refine (read_nil _).mono ?_
          rintro e wz ⟨rfl, rfl⟩
          refine hK.out _ _ (trivial) (fun _ => ?_)
          clear hK K
          try simp only [Act.put, List.setIfInBounds_toArray, List.set_cons_zero, List.set_cons_succ]
          refine wpAnyH_take (i := 12) (oi := ({ dst := some 149, op := Op.binOp BinOp.neq 27 (Operand.tmp 148) (Operand.const (Value.int IntKind.u64 0)) 27, type := 4, pos := _, after := #[{ on := 11, ground := Ground.data }, { on := 9, ground := Ground.guard }], guard := some (9, false) } : Oper)) (v := ?_) rfl (by kernel_rfl) (by kernel_rfl) (by kernel_rfl) (fun _ _ _ h => h) (Or.inl ⟨by rfl, ?_⟩) (trivial) ?_
          rotate_left
          · intro w hSw
            try dsimp only at hSw
            go_simp
            try with_reducible rfl
          try simp only [Act.put, List.setIfInBounds_toArray, List.set_cons_zero, List.set_cons_succ]
          refine wpAnyH_take (i := 13) (oi := ({ dst := some 150, op := Op.pick (Operand.tmp 146) (Operand.const (Value.bool true)) (Operand.tmp 149), type := 4, pos := _, after := #[{ on := 9, ground := Ground.data }, { on := 12, ground := Ground.data }, { on := 2, ground := Ground.guard }], guard := some (2, true) } : Oper)) (v := ?_) rfl (by kernel_rfl) (by kernel_rfl) (by kernel_rfl) (fun _ _ _ h => h) (Or.inl ⟨by rfl, ?_⟩) (trivial) ?_
          rotate_left
          · intro w hSw
            try dsimp only at hSw
            go_simp
            try with_reducible rfl
          try simp only [Act.put, List.setIfInBounds_toArray, List.set_cons_zero, List.set_cons_succ]
          refine wpAnyH_take (i := 14) (oi := ({ dst := some 151, op := Op.pick (Operand.tmp 139) (Operand.tmp 150) (Operand.const (Value.bool false)), type := 4, pos := _, after := #[{ on := 2, ground := Ground.data }, { on := 13, ground := Ground.data }], guard := none } : Oper)) (v := ?_) rfl (by kernel_rfl) (by kernel_rfl) (by kernel_rfl) (fun _ _ _ h => h) (Or.inl ⟨by rfl, ?_⟩) (trivial) ?_
          rotate_left
          · intro w hSw
            try dsimp only at hSw
            go_simp
            try with_reducible rfl
          try simp only [Act.put, List.setIfInBounds_toArray, List.set_cons_zero, List.set_cons_succ]
          refine wpAnyH_take (i := 15) (oi := ({ dst := some 152, op := Op.move (Operand.tmp 151), type := 4, pos := _, after := #[{ on := 14, ground := Ground.data }, { on := 11, ground := Ground.chain }], guard := none } : Oper)) (v := ?_) rfl (by kernel_rfl) (by kernel_rfl) (by kernel_rfl) (fun _ _ _ h => h) (Or.inl ⟨by rfl, ?_⟩) (trivial) ?_
          rotate_left
          · intro w hSw
            try dsimp only at hSw
            go_simp
            try with_reducible rfl
          try simp only [Act.put, List.setIfInBounds_toArray, List.set_cons_zero, List.set_cons_succ]
          refine wpAnyH_take (i := 16) (oi := ({ dst := some 153, op := Op.move (Operand.tmp 6), type := 50, pos := _, after := #[{ on := 15, ground := Ground.guard }], guard := some (15, false) } : Oper)) (v := ?_) rfl (by kernel_rfl) (by kernel_rfl) (by kernel_rfl) (fun _ _ _ h => h) (Or.inl ⟨by rfl, ?_⟩) (trivial) ?_
          rotate_left
          · intro w hSw
            try dsimp only at hSw
            go_simp
            try with_reducible rfl
          try simp only [Act.put, List.setIfInBounds_toArray, List.set_cons_zero, List.set_cons_succ]
          refine wpAnyH_take (i := 17) (oi := ({ dst := some 154, op := Op.binOp BinOp.neq 50 (Operand.tmp 153) (Operand.const (Value.pointer none)) 50, type := 4, pos := _, after := #[{ on := 16, ground := Ground.data }, { on := 15, ground := Ground.guard }], guard := some (15, false) } : Oper)) (v := ?_) rfl (by kernel_rfl) (by kernel_rfl) (by kernel_rfl) (fun _ _ _ h => h) (Or.inl ⟨by rfl, ?_⟩) (trivial) ?_
          rotate_left
          · intro w hSw
            try dsimp only at hSw
            go_simp
            try with_reducible rfl
          try simp only [Act.put, List.setIfInBounds_toArray, List.set_cons_zero, List.set_cons_succ]
          refine wpAnyH_take (i := 18) (oi := ({ dst := some 155, op := Op.move (Operand.tmp 154), type := 4, pos := _, after := #[{ on := 17, ground := Ground.data }, { on := 15, ground := Ground.chain }, { on := 15, ground := Ground.guard }], guard := some (15, false) } : Oper)) (v := ?_) rfl (by kernel_rfl) (by kernel_rfl) (by kernel_rfl) (fun _ _ _ h => h) (Or.inl ⟨by rfl, ?_⟩) (trivial) ?_
          rotate_left
          · intro w hSw
            try dsimp only at hSw
            go_simp
            try with_reducible rfl
          try simp only [Act.put, List.setIfInBounds_toArray, List.set_cons_zero, List.set_cons_succ]
          refine wpAnyH_take (i := 19) (oi := ({ dst := some 156, op := Op.move (Operand.tmp 5), type := 25, pos := _, after := #[{ on := 18, ground := Ground.guard }], guard := some (18, true) } : Oper)) (v := undef) rfl (by kernel_rfl) (by kernel_rfl) (by kernel_rfl) (fun _ _ _ h => h) (Or.inr ⟨by rfl, rfl⟩) (trivial) ?_
          try simp only [Act.put, List.setIfInBounds_toArray, List.set_cons_zero, List.set_cons_succ]
          refine wpAnyH_take (i := 20) (oi := ({ dst := some 157, op := Op.call { callee := Callee.value (Operand.func 21), args := #[Operand.tmp 156], argTypes := #[25] }, type := 27, pos := _, after := #[{ on := 19, ground := Ground.data }, { on := 18, ground := Ground.chain }, { on := 18, ground := Ground.guard }], guard := some (18, true) } : Oper)) (v := undef) rfl (by kernel_rfl) (by kernel_rfl) (by kernel_rfl) (fun _ _ _ h => h) (Or.inr ⟨by rfl, rfl⟩) (trivial) ?_
          try simp only [Act.put, List.setIfInBounds_toArray, List.set_cons_zero, List.set_cons_succ]
          refine wpAnyH_take (i := 21) (oi := ({ dst := some 158, op := Op.move (Operand.tmp 6), type := 50, pos := _, after := #[{ on := 18, ground := Ground.guard }], guard := some (18, true) } : Oper)) (v := undef) rfl (by kernel_rfl) (by kernel_rfl) (by kernel_rfl) (fun _ _ _ h => h) (Or.inr ⟨by rfl, rfl⟩) (trivial) ?_
          try simp only [Act.put, List.setIfInBounds_toArray, List.set_cons_zero, List.set_cons_succ]
          refine wpAnyH_take (i := 22) (oi := ({ dst := some 159, op := Op.nilCheck (Operand.tmp 158), type := 0, pos := _, after := #[{ on := 21, ground := Ground.data }, { on := 18, ground := Ground.guard }], guard := some (18, true) } : Oper)) (v := undef) rfl (by kernel_rfl) (by kernel_rfl) (by kernel_rfl) (fun _ _ _ h => h) (Or.inr ⟨by rfl, rfl⟩) (trivial) ?_
          try simp only [Act.put, List.setIfInBounds_toArray, List.set_cons_zero, List.set_cons_succ]
          refine wpAnyH_take (i := 23) (oi := ({ dst := some 160, op := Op.fieldAddr 59 (Operand.tmp 159) 2, type := 0, pos := _, after := #[{ on := 22, ground := Ground.data }, { on := 18, ground := Ground.guard }], guard := some (18, true) } : Oper)) (v := undef) rfl (by kernel_rfl) (by kernel_rfl) (by kernel_rfl) (fun _ _ _ h => h) (Or.inr ⟨by rfl, rfl⟩) (trivial) ?_
          try simp only [Act.put, List.setIfInBounds_toArray, List.set_cons_zero, List.set_cons_succ]
          refine wpAnyH_take (i := 24) (oi := ({ dst := some 161, op := Op.load 27 (Operand.tmp 160), type := 27, pos := _, after := #[{ on := 23, ground := Ground.data }, { on := 18, ground := Ground.guard }], guard := some (18, true) } : Oper)) (v := undef) rfl (by kernel_rfl) (by kernel_rfl) (by kernel_rfl) (fun _ _ _ h => h) (Or.inr ⟨by rfl, rfl⟩) (trivial) ?_
          try simp only [Act.put, List.setIfInBounds_toArray, List.set_cons_zero, List.set_cons_succ]
          refine wpAnyH_take (i := 25) (oi := ({ dst := some 162, op := Op.binOp BinOp.neq 27 (Operand.tmp 157) (Operand.tmp 161) 27, type := 4, pos := _, after := #[{ on := 20, ground := Ground.data }, { on := 24, ground := Ground.data }, { on := 18, ground := Ground.guard }], guard := some (18, true) } : Oper)) (v := undef) rfl (by kernel_rfl) (by kernel_rfl) (by kernel_rfl) (fun _ _ _ h => h) (Or.inr ⟨by rfl, rfl⟩) (trivial) ?_
          try simp only [Act.put, List.setIfInBounds_toArray, List.set_cons_zero, List.set_cons_succ]
          refine wpAnyH_take (i := 26) (oi := ({ dst := some 163, op := Op.move (Operand.tmp 162), type := 4, pos := _, after := #[{ on := 25, ground := Ground.data }, { on := 20, ground := Ground.chain }, { on := 18, ground := Ground.guard }], guard := some (18, true) } : Oper)) (v := undef) rfl (by kernel_rfl) (by kernel_rfl) (by kernel_rfl) (fun _ _ _ h => h) (Or.inr ⟨by rfl, rfl⟩) (trivial) ?_
          try simp only [Act.put, List.setIfInBounds_toArray, List.set_cons_zero, List.set_cons_succ]
          refine wpAnyH_take (i := 27) (oi := ({ dst := some 164, op := Op.move (Operand.tmp 18), type := 4, pos := _, after := #[{ on := 26, ground := Ground.guard }], guard := some (26, false) } : Oper)) (v := undef) rfl (by kernel_rfl) (by kernel_rfl) (by kernel_rfl) (fun _ _ _ h => h) (Or.inr ⟨by rfl, rfl⟩) (trivial) ?_
          try simp only [Act.put, List.setIfInBounds_toArray, List.set_cons_zero, List.set_cons_succ]
          refine wpAnyH_take (i := 28) (oi := ({ dst := some 165, op := Op.move (Operand.tmp 6), type := 50, pos := _, after := #[{ on := 26, ground := Ground.guard }], guard := some (26, false) } : Oper)) (v := undef) rfl (by kernel_rfl) (by kernel_rfl) (by kernel_rfl) (fun _ _ _ h => h) (Or.inr ⟨by rfl, rfl⟩) (trivial) ?_
          try simp only [Act.put, List.setIfInBounds_toArray, List.set_cons_zero, List.set_cons_succ]
          refine wpAnyH_take (i := 29) (oi := ({ dst := some 166, op := Op.nilCheck (Operand.tmp 165), type := 0, pos := _, after := #[{ on := 28, ground := Ground.data }, { on := 26, ground := Ground.guard }], guard := some (26, false) } : Oper)) (v := undef) rfl (by kernel_rfl) (by kernel_rfl) (by kernel_rfl) (fun _ _ _ h => h) (Or.inr ⟨by rfl, rfl⟩) (trivial) ?_
          try simp only [Act.put, List.setIfInBounds_toArray, List.set_cons_zero, List.set_cons_succ]
          refine wpAnyH_take (i := 30) (oi := ({ dst := some 167, op := Op.fieldAddr 59 (Operand.tmp 166) 4, type := 0, pos := _, after := #[{ on := 29, ground := Ground.data }, { on := 26, ground := Ground.guard }], guard := some (26, false) } : Oper)) (v := undef) rfl (by kernel_rfl) (by kernel_rfl) (by kernel_rfl) (fun _ _ _ h => h) (Or.inr ⟨by rfl, rfl⟩) (trivial) ?_
          try simp only [Act.put, List.setIfInBounds_toArray, List.set_cons_zero, List.set_cons_succ]
          refine wpAnyH_take (i := 31) (oi := ({ dst := some 168, op := Op.load 4 (Operand.tmp 167), type := 4, pos := _, after := #[{ on := 30, ground := Ground.data }, { on := 26, ground := Ground.guard }], guard := some (26, false) } : Oper)) (v := undef) rfl (by kernel_rfl) (by kernel_rfl) (by kernel_rfl) (fun _ _ _ h => h) (Or.inr ⟨by rfl, rfl⟩) (trivial) ?_
          try simp only [Act.put, List.setIfInBounds_toArray, List.set_cons_zero, List.set_cons_succ]
          refine wpAnyH_take (i := 32) (oi := ({ dst := some 169, op := Op.binOp BinOp.neq 4 (Operand.tmp 164) (Operand.tmp 168) 4, type := 4, pos := _, after := #[{ on := 27, ground := Ground.data }, { on := 31, ground := Ground.data }, { on := 26, ground := Ground.guard }], guard := some (26, false) } : Oper)) (v := undef) rfl (by kernel_rfl) (by kernel_rfl) (by kernel_rfl) (fun _ _ _ h => h) (Or.inr ⟨by rfl, rfl⟩) (trivial) ?_
          try simp only [Act.put, List.setIfInBounds_toArray, List.set_cons_zero, List.set_cons_succ]
          refine wpAnyH_take (i := 33) (oi := ({ dst := some 170, op := Op.pick (Operand.tmp 163) (Operand.const (Value.bool true)) (Operand.tmp 169), type := 4, pos := _, after := #[{ on := 26, ground := Ground.data }, { on := 32, ground := Ground.data }, { on := 18, ground := Ground.guard }], guard := some (18, true) } : Oper)) (v := undef) rfl (by kernel_rfl) (by kernel_rfl) (by kernel_rfl) (fun _ _ _ h => h) (Or.inr ⟨by rfl, rfl⟩) (trivial) ?_
          try simp only [Act.put, List.setIfInBounds_toArray, List.set_cons_zero, List.set_cons_succ]
          refine wpAnyH_take (i := 34) (oi := ({ dst := some 171, op := Op.move (Operand.tmp 170), type := 4, pos := _, after := #[{ on := 33, ground := Ground.data }, { on := 26, ground := Ground.chain }, { on := 18, ground := Ground.guard }], guard := some (18, true) } : Oper)) (v := undef) rfl (by kernel_rfl) (by kernel_rfl) (by kernel_rfl) (fun _ _ _ h => h) (Or.inr ⟨by rfl, rfl⟩) (trivial) ?_
          try simp only [Act.put, List.setIfInBounds_toArray, List.set_cons_zero, List.set_cons_succ]
          refine wpAnyH_take (i := 35) (oi := ({ dst := some 172, op := Op.move (Operand.tmp 18), type := 4, pos := _, after := #[{ on := 34, ground := Ground.guard }], guard := some (34, false) } : Oper)) (v := undef) rfl (by kernel_rfl) (by kernel_rfl) (by kernel_rfl) (fun _ _ _ h => h) (Or.inr ⟨by rfl, rfl⟩) (trivial) ?_
          try simp only [Act.put, List.setIfInBounds_toArray, List.set_cons_zero, List.set_cons_succ]
          refine wpAnyH_take (i := 36) (oi := ({ dst := some 173, op := Op.move (Operand.tmp 172), type := 4, pos := _, after := #[{ on := 35, ground := Ground.data }, { on := 34, ground := Ground.chain }, { on := 34, ground := Ground.guard }], guard := some (34, false) } : Oper)) (v := undef) rfl (by kernel_rfl) (by kernel_rfl) (by kernel_rfl) (fun _ _ _ h => h) (Or.inr ⟨by rfl, rfl⟩) (trivial) ?_
          try simp only [Act.put, List.setIfInBounds_toArray, List.set_cons_zero, List.set_cons_succ]
          refine wpAnyH_take (i := 37) (oi := ({ dst := some 174, op := Op.move (Operand.tmp 17), type := 27, pos := _, after := #[{ on := 36, ground := Ground.guard }], guard := some (36, true) } : Oper)) (v := undef) rfl (by kernel_rfl) (by kernel_rfl) (by kernel_rfl) (fun _ _ _ h => h) (Or.inr ⟨by rfl, rfl⟩) (trivial) ?_
          try simp only [Act.put, List.setIfInBounds_toArray, List.set_cons_zero, List.set_cons_succ]
          refine wpAnyH_take (i := 38) (oi := ({ dst := some 175, op := Op.move (Operand.tmp 6), type := 50, pos := _, after := #[{ on := 36, ground := Ground.guard }], guard := some (36, true) } : Oper)) (v := undef) rfl (by kernel_rfl) (by kernel_rfl) (by kernel_rfl) (fun _ _ _ h => h) (Or.inr ⟨by rfl, rfl⟩) (trivial) ?_
          try simp only [Act.put, List.setIfInBounds_toArray, List.set_cons_zero, List.set_cons_succ]
          refine wpAnyH_take (i := 39) (oi := ({ dst := some 176, op := Op.nilCheck (Operand.tmp 175), type := 0, pos := _, after := #[{ on := 38, ground := Ground.data }, { on := 36, ground := Ground.guard }], guard := some (36, true) } : Oper)) (v := undef) rfl (by kernel_rfl) (by kernel_rfl) (by kernel_rfl) (fun _ _ _ h => h) (Or.inr ⟨by rfl, rfl⟩) (trivial) ?_
          try simp only [Act.put, List.setIfInBounds_toArray, List.set_cons_zero, List.set_cons_succ]
          refine wpAnyH_take (i := 40) (oi := ({ dst := some 177, op := Op.fieldAddr 59 (Operand.tmp 176) 3, type := 0, pos := _, after := #[{ on := 39, ground := Ground.data }, { on := 36, ground := Ground.guard }], guard := some (36, true) } : Oper)) (v := undef) rfl (by kernel_rfl) (by kernel_rfl) (by kernel_rfl) (fun _ _ _ h => h) (Or.inr ⟨by rfl, rfl⟩) (trivial) ?_
          try simp only [Act.put, List.setIfInBounds_toArray, List.set_cons_zero, List.set_cons_succ]
          refine wpAnyH_take (i := 41) (oi := ({ dst := some 178, op := Op.load 27 (Operand.tmp 177), type := 27, pos := _, after := #[{ on := 40, ground := Ground.data }, { on := 36, ground := Ground.guard }], guard := some (36, true) } : Oper)) (v := undef) rfl (by kernel_rfl) (by kernel_rfl) (by kernel_rfl) (fun _ _ _ h => h) (Or.inr ⟨by rfl, rfl⟩) (trivial) ?_
          try simp only [Act.put, List.setIfInBounds_toArray, List.set_cons_zero, List.set_cons_succ]
          refine wpAnyH_take (i := 42) (oi := ({ dst := some 179, op := Op.binOp BinOp.neq 27 (Operand.tmp 174) (Operand.tmp 178) 27, type := 4, pos := _, after := #[{ on := 37, ground := Ground.data }, { on := 41, ground := Ground.data }, { on := 36, ground := Ground.guard }], guard := some (36, true) } : Oper)) (v := undef) rfl (by kernel_rfl) (by kernel_rfl) (by kernel_rfl) (fun _ _ _ h => h) (Or.inr ⟨by rfl, rfl⟩) (trivial) ?_
          try simp only [Act.put, List.setIfInBounds_toArray, List.set_cons_zero, List.set_cons_succ]
          refine wpAnyH_take (i := 43) (oi := ({ dst := some 180, op := Op.pick (Operand.tmp 173) (Operand.tmp 179) (Operand.const (Value.bool false)), type := 4, pos := _, after := #[{ on := 36, ground := Ground.data }, { on := 42, ground := Ground.data }, { on := 34, ground := Ground.guard }], guard := some (34, false) } : Oper)) (v := undef) rfl (by kernel_rfl) (by kernel_rfl) (by kernel_rfl) (fun _ _ _ h => h) (Or.inr ⟨by rfl, rfl⟩) (trivial) ?_
          try simp only [Act.put, List.setIfInBounds_toArray, List.set_cons_zero, List.set_cons_succ]
          refine wpAnyH_take (i := 44) (oi := ({ dst := some 181, op := Op.pick (Operand.tmp 171) (Operand.const (Value.bool true)) (Operand.tmp 180), type := 4, pos := _, after := #[{ on := 34, ground := Ground.data }, { on := 43, ground := Ground.data }, { on := 18, ground := Ground.guard }], guard := some (18, true) } : Oper)) (v := undef) rfl (by kernel_rfl) (by kernel_rfl) (by kernel_rfl) (fun _ _ _ h => h) (Or.inr ⟨by rfl, rfl⟩) (trivial) ?_
          try simp only [Act.put, List.setIfInBounds_toArray, List.set_cons_zero, List.set_cons_succ]
          refine wpAnyH_take (i := 45) (oi := ({ dst := some 182, op := Op.move (Operand.tmp 181), type := 4, pos := _, after := #[{ on := 44, ground := Ground.data }, { on := 36, ground := Ground.chain }, { on := 18, ground := Ground.guard }], guard := some (18, true) } : Oper)) (v := undef) rfl (by kernel_rfl) (by kernel_rfl) (by kernel_rfl) (fun _ _ _ h => h) (Or.inr ⟨by rfl, rfl⟩) (trivial) ?_
          try simp only [Act.put, List.setIfInBounds_toArray, List.set_cons_zero, List.set_cons_succ]
          refine wpAnyH_take (i := 46) (oi := ({ dst := some 183, op := Op.move (Operand.tmp 5), type := 25, pos := _, after := #[{ on := 45, ground := Ground.guard }], guard := some (45, false) } : Oper)) (v := undef) rfl (by kernel_rfl) (by kernel_rfl) (by kernel_rfl) (fun _ _ _ h => h) (Or.inr ⟨by rfl, rfl⟩) (trivial) ?_
          try simp only [Act.put, List.setIfInBounds_toArray, List.set_cons_zero, List.set_cons_succ]
          refine wpAnyH_take (i := 47) (oi := ({ dst := some 184, op := Op.call { callee := Callee.value (Operand.func 18), args := #[Operand.tmp 183], argTypes := #[25] }, type := 27, pos := _, after := #[{ on := 46, ground := Ground.data }, { on := 45, ground := Ground.chain }, { on := 45, ground := Ground.guard }], guard := some (45, false) } : Oper)) (v := undef) rfl (by kernel_rfl) (by kernel_rfl) (by kernel_rfl) (fun _ _ _ h => h) (Or.inr ⟨by rfl, rfl⟩) (trivial) ?_
          try simp only [Act.put, List.setIfInBounds_toArray, List.set_cons_zero, List.set_cons_succ]
          refine wpAnyH_take (i := 48) (oi := ({ dst := some 185, op := Op.move (Operand.tmp 6), type := 50, pos := _, after := #[{ on := 45, ground := Ground.guard }], guard := some (45, false) } : Oper)) (v := undef) rfl (by kernel_rfl) (by kernel_rfl) (by kernel_rfl) (fun _ _ _ h => h) (Or.inr ⟨by rfl, rfl⟩) (trivial) ?_
          try simp only [Act.put, List.setIfInBounds_toArray, List.set_cons_zero, List.set_cons_succ]
          refine wpAnyH_take (i := 49) (oi := ({ dst := some 186, op := Op.nilCheck (Operand.tmp 185), type := 0, pos := _, after := #[{ on := 48, ground := Ground.data }, { on := 45, ground := Ground.guard }], guard := some (45, false) } : Oper)) (v := undef) rfl (by kernel_rfl) (by kernel_rfl) (by kernel_rfl) (fun _ _ _ h => h) (Or.inr ⟨by rfl, rfl⟩) (trivial) ?_
          try simp only [Act.put, List.setIfInBounds_toArray, List.set_cons_zero, List.set_cons_succ]
          refine wpAnyH_take (i := 50) (oi := ({ dst := some 187, op := Op.fieldAddr 59 (Operand.tmp 186) 1, type := 0, pos := _, after := #[{ on := 49, ground := Ground.data }, { on := 45, ground := Ground.guard }], guard := some (45, false) } : Oper)) (v := undef) rfl (by kernel_rfl) (by kernel_rfl) (by kernel_rfl) (fun _ _ _ h => h) (Or.inr ⟨by rfl, rfl⟩) (trivial) ?_
          try simp only [Act.put, List.setIfInBounds_toArray, List.set_cons_zero, List.set_cons_succ]
          refine wpAnyH_take (i := 51) (oi := ({ dst := some 188, op := Op.load 27 (Operand.tmp 187), type := 27, pos := _, after := #[{ on := 50, ground := Ground.data }, { on := 45, ground := Ground.guard }], guard := some (45, false) } : Oper)) (v := undef) rfl (by kernel_rfl) (by kernel_rfl) (by kernel_rfl) (fun _ _ _ h => h) (Or.inr ⟨by rfl, rfl⟩) (trivial) ?_
          try simp only [Act.put, List.setIfInBounds_toArray, List.set_cons_zero, List.set_cons_succ]
          refine wpAnyH_take (i := 52) (oi := ({ dst := some 189, op := Op.binOp BinOp.neq 27 (Operand.tmp 184) (Operand.tmp 188) 27, type := 4, pos := _, after := #[{ on := 47, ground := Ground.data }, { on := 51, ground := Ground.data }, { on := 45, ground := Ground.guard }], guard := some (45, false) } : Oper)) (v := undef) rfl (by kernel_rfl) (by kernel_rfl) (by kernel_rfl) (fun _ _ _ h => h) (Or.inr ⟨by rfl, rfl⟩) (trivial) ?_
          try simp only [Act.put, List.setIfInBounds_toArray, List.set_cons_zero, List.set_cons_succ]
          refine wpAnyH_take (i := 53) (oi := ({ dst := some 190, op := Op.pick (Operand.tmp 182) (Operand.const (Value.bool true)) (Operand.tmp 189), type := 4, pos := _, after := #[{ on := 45, ground := Ground.data }, { on := 52, ground := Ground.data }, { on := 18, ground := Ground.guard }], guard := some (18, true) } : Oper)) (v := undef) rfl (by kernel_rfl) (by kernel_rfl) (by kernel_rfl) (fun _ _ _ h => h) (Or.inr ⟨by rfl, rfl⟩) (trivial) ?_
          try simp only [Act.put, List.setIfInBounds_toArray, List.set_cons_zero, List.set_cons_succ]
          refine wpAnyH_take (i := 54) (oi := ({ dst := some 191, op := Op.pick (Operand.tmp 155) (Operand.tmp 190) (Operand.const (Value.bool false)), type := 4, pos := _, after := #[{ on := 18, ground := Ground.data }, { on := 53, ground := Ground.data }, { on := 15, ground := Ground.guard }], guard := some (15, false) } : Oper)) (v := ?_) rfl (by kernel_rfl) (by kernel_rfl) (by kernel_rfl) (fun _ _ _ h => h) (Or.inl ⟨by rfl, ?_⟩) (trivial) ?_
          rotate_left
          · intro w hSw
            try dsimp only at hSw
            go_simp
            try with_reducible rfl
          try simp only [Act.put, List.setIfInBounds_toArray, List.set_cons_zero, List.set_cons_succ]
          refine wpAnyH_take (i := 55) (oi := ({ dst := some 192, op := Op.pick (Operand.tmp 152) (Operand.const (Value.bool true)) (Operand.tmp 191), type := 4, pos := _, after := #[{ on := 15, ground := Ground.data }, { on := 54, ground := Ground.data }], guard := none } : Oper)) (v := ?_) rfl (by kernel_rfl) (by kernel_rfl) (by kernel_rfl) (fun _ _ _ h => h) (Or.inl ⟨by rfl, ?_⟩) (trivial) ?_
          rotate_left
          · intro w hSw
            try dsimp only at hSw
            go_simp
            try with_reducible rfl
          try simp only [Act.put, List.setIfInBounds_toArray, List.set_cons_zero, List.set_cons_succ]
          refine wpAnyH_done (by kernel_rfl) ?_ _
          go_wp2_with fail
          go_roundw
          case rel => exact ⟨i + 1, by go_num, by omega, hPz⟩
          case measure => simp [intOf]; omega
      · have h40I : (40 : Int) ≤ (i : Int) := by omega
        have hba : Below wr.heap.size wr (wr.alloc (.cells #[.int .u8 d_, .int .u64 of, .slice VA ll.length vc, .bool en_, .int .i64 mm] 44)) := (Below.refl _ _).alloc (Nat.le_refl _) _
        have HBA := Lib.hid hba
        clear hba
        go_wp2_with fail
        go_ret
        exact ⟨rfl, hP.trans (HBA.out.mono hP.size)⟩
    · obtain rfl : i = N := by omega
      go_wp2_with fail
      go_ret
      exact ⟨rfl, hP⟩

end Go.Proofs.Ytpkondemkpogoaa
