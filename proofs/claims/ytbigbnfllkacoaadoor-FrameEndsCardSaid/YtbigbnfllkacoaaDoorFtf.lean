/-
  A Stream and a Datagram without its length: their fields are read; they are right.
-/
import Derived.Test.YtbigbnfllkacoaaDoorFte
namespace Go.Proofs.YtbigbnfllkacoaaDoor
open Go.RowKit
set_option linter.unusedVariables false
set_option linter.unusedSimpArgs false

theorem max4' (P : Program) (i o z c : Int) : ∃ m : Int, (m = i ∨ m = o ∨ m = z ∨ m = c) ∧ ∀ W : World, (Builtin.max_ #[22, 22, 22, 22] 22 #[.int .u64 i, .int .u64 o, .int .u64 z, .int .u64 c] : Sem _).run P W = .ok (.int .u64 m) W := max4 P i o z c
theorem numbers48 (w : World) : Calls Tryd.prog 24 #[.int .u64 48] w fun e w' => e = .returned (.tuple #[.string ⟨#[]⟩, .bool true, .bool true]) ∧ w = w' := by
  go_enter Tryd.func24, Tryd.ntmps24
  go_wp2_with fail
  go_ret3
  exact ⟨rfl, rfl⟩
theorem kindE48 (w : World) : Calls Tryd.prog 35 #[.int .u64 48] w fun e w' => e = .returned (.tuple #[.int .u64 48, .int .u64 0, .bool true]) ∧ w = w' := by
  go_enter Tryd.func35, Tryd.ntmps35
  go_wp2_with fail
  go_ret3
  exact ⟨rfl, rfl⟩
theorem kindE8 (w : World) : Calls Tryd.prog 35 #[.int .u64 8] w fun e w' => e = .returned (.tuple #[.int .u64 8, .int .u64 0, .bool true]) ∧ w = w' := by
  go_enter Tryd.func35, Tryd.ntmps35
  go_wp2_with fail
  go_ret3
  exact ⟨rfl, rfl⟩
theorem kindE9 (w : World) : Calls Tryd.prog 35 #[.int .u64 9] w fun e w' => e = .returned (.tuple #[.int .u64 8, .int .u64 1, .bool true]) ∧ w = w' := by
  go_enter Tryd.func35, Tryd.ntmps35
  go_wp2_with fail
  go_ret3
  exact ⟨rfl, rfl⟩
set_option maxHeartbeats 8000000 in
set_option maxRecDepth 100000 in
theorem clearE8 (i : Int) (fin : Bool) (A : Option Addr) (n c : Nat) (w : World) : Calls Tryd.prog 39 #[.agg #[.int .u64 8, .int .u64 i, .int .u64 0, .int .u64 0, .int .u64 0, .bool fin, .slice A n c, .slice none 0 0, .slice none 0 0]] w fun e w' => e = .returned (.bool true) ∧ Below w.heap.size w w' := by
  go_enter Tryd.func39, Tryd.ntmps39
  go_wp2_with fail
  refine (numbers8 _).mono ?_
  rintro e w1 ⟨rfl, rfl⟩
  go_wp2_with fail
  refine wp_loop_rounds 1 ?_
  rw [rounds_succ]
  go_wp2_with fail
  go_ret
  exact ⟨rfl, (Below.refl _ _).alloc (Nat.le_refl _) _⟩
set_option maxHeartbeats 8000000 in
set_option maxRecDepth 100000 in
theorem rightE8 (i : Int) (fin : Bool) (A : Option Addr) (n c : Nat) (w : World) (hi : 0 ≤ i ∧ i ≤ 4611686018427387903) (hn : n ≤ 1000000) : Calls Tryd.prog 22 #[.agg #[.int .u64 8, .int .u64 i, .int .u64 0, .int .u64 0, .int .u64 0, .bool fin, .slice A n c, .slice none 0 0, .slice none 0 0]] w fun e w' => e = .returned (.bool true) ∧ Below w.heap.size w w' := by
  have hO := Blk.new w 26 #[.int .u64 8, .int .u64 i, .int .u64 0, .int .u64 0, .int .u64 0, .bool fin, .slice A n c, .slice none 0 0, .slice none 0 0]
  have hB := (Below.refl w.heap.size w).alloc (Nat.le_refl _) (.cells #[.int .u64 8, .int .u64 i, .int .u64 0, .int .u64 0, .int .u64 0, .bool fin, .slice A n c, .slice none 0 0, .slice none 0 0] 26)
  have c0 : World.cell? _ ⟨w.heap.size, 0, none⟩ = some (.int .u64 8) := hO.cell 0
  have c1 : World.cell? _ ⟨w.heap.size, 1, none⟩ = some (.int .u64 i) := hO.cell 1
  have c2 : World.cell? _ ⟨w.heap.size, 2, none⟩ = some (.int .u64 0) := hO.cell 2
  have c3 : World.cell? _ ⟨w.heap.size, 3, none⟩ = some (.int .u64 0) := hO.cell 3
  have c4 : World.cell? _ ⟨w.heap.size, 4, none⟩ = some (.int .u64 0) := hO.cell 4
  have c5 : World.cell? _ ⟨w.heap.size, 5, none⟩ = some (.bool fin) := hO.cell 5
  have c6 : World.cell? _ ⟨w.heap.size, 6, none⟩ = some (.slice A n c) := hO.cell 6
  have c7 : World.cell? _ ⟨w.heap.size, 7, none⟩ = some (.slice none 0 0) := hO.cell 7
  have c8 : World.cell? _ ⟨w.heap.size, 8, none⟩ = some (.slice none 0 0) := hO.cell 8
  obtain ⟨m, hm, hmx⟩ := max4 Tryd.prog i 0 0 0
  have hmle : ¬ (4611686018427387903 : Int) < m := by omega
  have hw : IntKind.u64.wrap (4611686018427387903 - (n : Int)) = 4611686018427387903 - (n : Int) := Go.IntWalk.u64_in _ (by omega)
  have hw2 : IntKind.u64.wrap (n : Int) = (n : Int) := Go.IntWalk.u64_in _ (by omega)
  have hle : (0 : Int) ≤ 4611686018427387903 - (n : Int) := by omega
  clear hm
  go_enter Tryd.func22, Tryd.ntmps22
  go_wp2_with fail
  (with_reducible refine (clearE8 i fin A n c _).mono ?_)
  rintro e w1 ⟨rfl, hb1⟩
  have hO1 := hO.same hb1
  have hB1 := hB.trans (hb1.mono hB.size)
  have a0 : World.cell? w1 ⟨w.heap.size, 0, none⟩ = some (.int .u64 8) := hO1.cell 0
  have a1 : World.cell? w1 ⟨w.heap.size, 1, none⟩ = some (.int .u64 i) := hO1.cell 1
  have a2 : World.cell? w1 ⟨w.heap.size, 2, none⟩ = some (.int .u64 0) := hO1.cell 2
  have a3 : World.cell? w1 ⟨w.heap.size, 3, none⟩ = some (.int .u64 0) := hO1.cell 3
  have a4 : World.cell? w1 ⟨w.heap.size, 4, none⟩ = some (.int .u64 0) := hO1.cell 4
  have a5 : World.cell? w1 ⟨w.heap.size, 5, none⟩ = some (.bool fin) := hO1.cell 5
  have a6 : World.cell? w1 ⟨w.heap.size, 6, none⟩ = some (.slice A n c) := hO1.cell 6
  have a7 : World.cell? w1 ⟨w.heap.size, 7, none⟩ = some (.slice none 0 0) := hO1.cell 7
  have a8 : World.cell? w1 ⟨w.heap.size, 8, none⟩ = some (.slice none 0 0) := hO1.cell 8
  go_wp2_with fail
  go_ret
  first
    | exact ⟨rfl, hB1⟩
    | exact ⟨by simp; omega, hB1⟩
set_option maxHeartbeats 8000000 in
set_option maxRecDepth 100000 in
theorem clearE48 (A : Option Addr) (n c : Nat) (w : World) : Calls Tryd.prog 39 #[.agg #[.int .u64 48, .int .u64 0, .int .u64 0, .int .u64 0, .int .u64 0, .bool false, .slice A n c, .slice none 0 0, .slice none 0 0]] w fun e w' => e = .returned (.bool true) ∧ Below w.heap.size w w' := by
  go_enter Tryd.func39, Tryd.ntmps39
  go_wp2_with fail
  refine (numbers48 _).mono ?_
  rintro e w1 ⟨rfl, rfl⟩
  go_wp2_with fail
  refine wp_loop_rounds 1 ?_
  rw [rounds_succ]
  go_wp2_with fail
  go_ret
  exact ⟨rfl, (Below.refl _ _).alloc (Nat.le_refl _) _⟩
set_option maxHeartbeats 8000000 in
set_option maxRecDepth 100000 in
theorem rightE48 (A : Option Addr) (n c : Nat) (w : World) (hn : n ≤ 1000000) : Calls Tryd.prog 22 #[.agg #[.int .u64 48, .int .u64 0, .int .u64 0, .int .u64 0, .int .u64 0, .bool false, .slice A n c, .slice none 0 0, .slice none 0 0]] w fun e w' => e = .returned (.bool true) ∧ Below w.heap.size w w' := by
  have hO := Blk.new w 26 #[.int .u64 48, .int .u64 0, .int .u64 0, .int .u64 0, .int .u64 0, .bool false, .slice A n c, .slice none 0 0, .slice none 0 0]
  have hB := (Below.refl w.heap.size w).alloc (Nat.le_refl _) (.cells #[.int .u64 48, .int .u64 0, .int .u64 0, .int .u64 0, .int .u64 0, .bool false, .slice A n c, .slice none 0 0, .slice none 0 0] 26)
  have c0 : World.cell? _ ⟨w.heap.size, 0, none⟩ = some (.int .u64 48) := hO.cell 0
  have c1 : World.cell? _ ⟨w.heap.size, 1, none⟩ = some (.int .u64 0) := hO.cell 1
  have c2 : World.cell? _ ⟨w.heap.size, 2, none⟩ = some (.int .u64 0) := hO.cell 2
  have c3 : World.cell? _ ⟨w.heap.size, 3, none⟩ = some (.int .u64 0) := hO.cell 3
  have c4 : World.cell? _ ⟨w.heap.size, 4, none⟩ = some (.int .u64 0) := hO.cell 4
  have c5 : World.cell? _ ⟨w.heap.size, 5, none⟩ = some (.bool false) := hO.cell 5
  have c6 : World.cell? _ ⟨w.heap.size, 6, none⟩ = some (.slice A n c) := hO.cell 6
  have c7 : World.cell? _ ⟨w.heap.size, 7, none⟩ = some (.slice none 0 0) := hO.cell 7
  have c8 : World.cell? _ ⟨w.heap.size, 8, none⟩ = some (.slice none 0 0) := hO.cell 8
  obtain ⟨m, hm, hmx⟩ := max4 Tryd.prog 0 0 0 0
  have hmle : ¬ (4611686018427387903 : Int) < m := by omega
  have hw : IntKind.u64.wrap (4611686018427387903 - (n : Int)) = 4611686018427387903 - (n : Int) := Go.IntWalk.u64_in _ (by omega)
  have hw2 : IntKind.u64.wrap (n : Int) = (n : Int) := Go.IntWalk.u64_in _ (by omega)
  have hle : (0 : Int) ≤ 4611686018427387903 - (n : Int) := by omega
  clear hm
  go_enter Tryd.func22, Tryd.ntmps22
  go_wp2_with fail
  (with_reducible refine (clearE48 A n c _).mono ?_)
  rintro e w1 ⟨rfl, hb1⟩
  have hO1 := hO.same hb1
  have hB1 := hB.trans (hb1.mono hB.size)
  have a0 : World.cell? w1 ⟨w.heap.size, 0, none⟩ = some (.int .u64 48) := hO1.cell 0
  have a1 : World.cell? w1 ⟨w.heap.size, 1, none⟩ = some (.int .u64 0) := hO1.cell 1
  have a2 : World.cell? w1 ⟨w.heap.size, 2, none⟩ = some (.int .u64 0) := hO1.cell 2
  have a3 : World.cell? w1 ⟨w.heap.size, 3, none⟩ = some (.int .u64 0) := hO1.cell 3
  have a4 : World.cell? w1 ⟨w.heap.size, 4, none⟩ = some (.int .u64 0) := hO1.cell 4
  have a5 : World.cell? w1 ⟨w.heap.size, 5, none⟩ = some (.bool false) := hO1.cell 5
  have a6 : World.cell? w1 ⟨w.heap.size, 6, none⟩ = some (.slice A n c) := hO1.cell 6
  have a7 : World.cell? w1 ⟨w.heap.size, 7, none⟩ = some (.slice none 0 0) := hO1.cell 7
  have a8 : World.cell? w1 ⟨w.heap.size, 8, none⟩ = some (.slice none 0 0) := hO1.cell 8
  go_wp2_with fail
  go_ret
  first
    | exact ⟨rfl, hB1⟩
    | exact ⟨by simp; omega, hB1⟩
set_option maxHeartbeats 8000000 in
set_option maxRecDepth 100000 in
theorem streamE0 (fb rb : Nat) (v : Value) (l l1 : List Int) (n : Int) (w : World) (hO : Blk w fb 26 #[.int .u64 8, .int .u64 0, .int .u64 0, .int .u64 0, .int .u64 0, .bool false, .slice none 0 0, .slice none 0 0, .slice none 0 0]) (hR : Blk w rb 70 #[v, .int .i64 0]) (hr : w.ownsRow 0 5 1 v l.length (l.map (Value.int .u8))) (hk : BytesOk l) (hl : l.length ≤ 1000) (hl1 : l1.length ≤ 1000) (ht : vtake l = some (n, l1)) (hne : fb ≠ rb) (B : Nat) (hfb : B ≤ fb) (hrb : B ≤ rb) (hsz : B ≤ w.heap.size) :
    Calls Tryd.prog 52 #[.pointer (some ⟨rb, 0, none⟩), .pointer (some ⟨fb, 0, none⟩), .int .u64 0] w fun e w' => e = .returned (.tuple #[]) ∧ ∃ A c, Blk w' fb 26 #[.int .u64 8, .int .u64 n, .int .u64 0, .int .u64 0, .int .u64 0, .bool false, .slice A l1.length c, .slice none 0 0, .slice none 0 0] ∧ w'.ownsRow 0 5 1 (.slice A l1.length c) l1.length (l1.map (Value.int .u8)) ∧ (∃ v', Blk w' rb 70 #[v', .int .i64 0] ∧ Rd w' .u8 v' []) ∧ Below B w w' ∧ B ≤ w'.heap.size := by
  have hb1 : bits .and .u64 0 1 = 0 := by decide +kernel
  have hb2 : bits .and .u64 0 4 = 0 := by decide +kernel
  have hb3 : bits .and .u64 0 2 = 0 := by decide +kernel
  have hlw : IntKind.u64.wrap (l1.length : Int) = (l1.length : Int) := Go.IntWalk.u64_in _ (by omega)
  go_enter Tryd.func52, Tryd.ntmps52
  go_wp2_with fail
  (with_reducible refine (rnum_own rb v l n l1 w hR hr hk (by omega) ht).mono ?_)
  rintro e w1 ⟨rfl, pv, hR1, ho1, hg1⟩
  have hO1 := hO.grown hg1 (by simpa using hne)
  have hB1 : Below B w w1 := (Below.refl _ _).grown hg1 hsz (fun m hm => by simp only [Option.some.injEq] at hm; omega)
  have hs1 : B ≤ w1.heap.size := Nat.le_trans hsz hg1.size
  have c0 : World.cell? w1 ⟨fb, 0, none⟩ = some (.int .u64 8) := hO1.cell 0
  have c1 : World.cell? w1 ⟨fb, 1, none⟩ = some (.int .u64 0) := hO1.cell 1
  have c2 : World.cell? w1 ⟨fb, 2, none⟩ = some (.int .u64 0) := hO1.cell 2
  have c3 : World.cell? w1 ⟨fb, 3, none⟩ = some (.int .u64 0) := hO1.cell 3
  have c4 : World.cell? w1 ⟨fb, 4, none⟩ = some (.int .u64 0) := hO1.cell 4
  have c5 : World.cell? w1 ⟨fb, 5, none⟩ = some (.bool false) := hO1.cell 5
  have c6 : World.cell? w1 ⟨fb, 6, none⟩ = some (.slice none 0 0) := hO1.cell 6
  have c7 : World.cell? w1 ⟨fb, 7, none⟩ = some (.slice none 0 0) := hO1.cell 7
  have c8 : World.cell? w1 ⟨fb, 8, none⟩ = some (.slice none 0 0) := hO1.cell 8
  have f0 := hO1.frozen 0
  have f1 := hO1.frozen 1
  have f2 := hO1.frozen 2
  have f3 := hO1.frozen 3
  have f4 := hO1.frozen 4
  have f5 := hO1.frozen 5
  have f6 := hO1.frozen 6
  have f7 := hO1.frozen 7
  have f8 := hO1.frozen 8
  obtain ⟨A1, cc1, rfl, _⟩ := sl_of_own ho1
  obtain ⟨W2, hW2⟩ : ∃ W2, W2 = (w1.setCell ⟨fb, 1, none⟩ (.int .u64 n)).setCell ⟨fb, 5, none⟩ (.bool false) := ⟨_, rfl⟩
  have hg2 : w1.grownBy W2 (some fb) := by rw [hW2]; exact grown_set (grown_set (grown_refl w1 _) 1 _) 5 _
  have hO2 : Blk W2 fb 26 #[.int .u64 8, .int .u64 n, .int .u64 0, .int .u64 0, .int .u64 0, .bool false, .slice none 0 0, .slice none 0 0, .slice none 0 0] := by rw [hW2]; simpa using (hO1.set_ 1 (.int .u64 n)).set_ 5 (.bool false)
  have hR2 := hR1.grown hg2 (by simpa using Ne.symm hne)
  have ho2 := own_grown ho1 hg2 (.inr (own_blk_ne ho1 hO1 (by decide)))
  have hB2 : Below B w W2 := hB1.grown hg2 hs1 (fun m hm => by simp only [Option.some.injEq] at hm; omega)
  have hs2 : B ≤ W2.heap.size := Nat.le_trans hs1 hg2.size
  have e0 : ((w1.setCell ⟨fb, 1, none⟩ (.int .u64 n)).setCell ⟨fb, 5, none⟩ (.bool false)).cell? ⟨rb, 0, none⟩ = some (.slice A1 l1.length cc1) := by rw [← hW2]; exact hR2.cell 0
  have htk := rtk_all rb _ l1 W2 hR2 ho2 (by omega)
  clear hR1 ho1 hg1 hO hR hr hB1 hg2
  go_wp2_with fail
  rw [← hW2]
  (with_reducible refine htk.mono ?_)
  rintro e w3 ⟨D, rfl, hoD, ⟨rv, hR3, hrv⟩, hg3⟩
  have hO3 := hO2.grown hg3 (by simpa using hne)
  have hB3 : Below B w w3 := hB2.grown hg3 hs2 (fun m hm => by simp only [Option.some.injEq] at hm; omega)
  have hs3 : B ≤ w3.heap.size := Nat.le_trans hs2 hg3.size
  obtain ⟨AD, cD, rfl, _⟩ := sl_of_own hoD
  have g6 : w3.cell? ⟨fb, 6, none⟩ = some (.slice none 0 0) := hO3.cell 6
  have f6' := hO3.frozen 6
  clear htk hO2 hR2 ho2 hB2 hO1
  go_wp2_with fail
  (first | go_end0 | ((try simp only [Exit.inBlock, Exit.then]); refine bodyPost_ret (results_none rfl _ _ _) rfl ?_))
  have hgF := grown_set (grown_refl w3 (some fb)) 6 (.slice AD l1.length cD)
  obtain ⟨Arv, crv, rfl⟩ := hrv.form
  exact ⟨rfl, AD, cD, by simpa using hO3.set_ 6 (.slice AD l1.length cD), own_grown hoD hgF (.inr (own_blk_ne hoD hO3 (by decide))), ⟨_, hR3.grown hgF (by simpa using Ne.symm hne), Rd.emp _ _ _ _ (by have := (hrv.rdv).2.2; omega)⟩, hB3.grown hgF hs3 (fun m hm => by simp only [Option.some.injEq] at hm; omega), Nat.le_trans hs3 hgF.size⟩
set_option maxHeartbeats 8000000 in
set_option maxRecDepth 100000 in
theorem fillE8 (fb rb : Nat) (v : Value) (l l1 : List Int) (n : Int) (w : World) (hO : Blk w fb 26 #[.int .u64 8, .int .u64 0, .int .u64 0, .int .u64 0, .int .u64 0, .bool false, .slice none 0 0, .slice none 0 0, .slice none 0 0]) (hR : Blk w rb 70 #[v, .int .i64 0]) (hr : w.ownsRow 0 5 1 v l.length (l.map (Value.int .u8))) (hk : BytesOk l) (hl : l.length ≤ 1000) (hl1 : l1.length ≤ 1000) (ht : vtake l = some (n, l1)) (hne : fb ≠ rb) (B : Nat) (hfb : B ≤ fb) (hrb : B ≤ rb) (hsz : B ≤ w.heap.size) :
    Calls Tryd.prog 37 #[.pointer (some ⟨rb, 0, none⟩), .pointer (some ⟨fb, 0, none⟩), .int .u64 0] w fun e w' => e = .returned (.tuple #[]) ∧ ∃ A c, Blk w' fb 26 #[.int .u64 8, .int .u64 n, .int .u64 0, .int .u64 0, .int .u64 0, .bool false, .slice A l1.length c, .slice none 0 0, .slice none 0 0] ∧ w'.ownsRow 0 5 1 (.slice A l1.length c) l1.length (l1.map (Value.int .u8)) ∧ (∃ v', Blk w' rb 70 #[v', .int .i64 0] ∧ Rd w' .u8 v' []) ∧ Below B w w' ∧ B ≤ w'.heap.size := by
  have c0 : World.cell? w ⟨fb, 0, none⟩ = some (.int .u64 8) := hO.cell 0
  have c1 : World.cell? w ⟨fb, 1, none⟩ = some (.int .u64 0) := hO.cell 1
  have c2 : World.cell? w ⟨fb, 2, none⟩ = some (.int .u64 0) := hO.cell 2
  have c3 : World.cell? w ⟨fb, 3, none⟩ = some (.int .u64 0) := hO.cell 3
  have c4 : World.cell? w ⟨fb, 4, none⟩ = some (.int .u64 0) := hO.cell 4
  have c5 : World.cell? w ⟨fb, 5, none⟩ = some (.bool false) := hO.cell 5
  have c6 : World.cell? w ⟨fb, 6, none⟩ = some (.slice none 0 0) := hO.cell 6
  have c7 : World.cell? w ⟨fb, 7, none⟩ = some (.slice none 0 0) := hO.cell 7
  have c8 : World.cell? w ⟨fb, 8, none⟩ = some (.slice none 0 0) := hO.cell 8
  have hst := streamE0 fb rb v l l1 n w hO hR hr hk hl hl1 ht hne B hfb hrb hsz
  go_enter Tryd.func37, Tryd.ntmps37
  go_wp2_with fail
  (with_reducible refine (numbers8 _).mono ?_)
  rintro e w0 ⟨rfl, rfl⟩
  go_wp2_with fail
  refine wp_loop_rounds 1 ?_
  rw [rounds_succ]
  go_wp2_with fail
  (with_reducible refine hst.mono ?_)
  rintro e w3 ⟨rfl, hfin⟩
  go_wp2_with fail
  (first | go_end0 | ((try simp only [Exit.inBlock, Exit.then]); refine bodyPost_ret (results_none rfl _ _ _) rfl ?_))
  exact ⟨rfl, hfin⟩
set_option maxHeartbeats 8000000 in
set_option maxRecDepth 100000 in
theorem streamE1 (fb rb : Nat) (v : Value) (l l1 : List Int) (n : Int) (w : World) (hO : Blk w fb 26 #[.int .u64 8, .int .u64 0, .int .u64 0, .int .u64 0, .int .u64 0, .bool false, .slice none 0 0, .slice none 0 0, .slice none 0 0]) (hR : Blk w rb 70 #[v, .int .i64 0]) (hr : w.ownsRow 0 5 1 v l.length (l.map (Value.int .u8))) (hk : BytesOk l) (hl : l.length ≤ 1000) (hl1 : l1.length ≤ 1000) (ht : vtake l = some (n, l1)) (hne : fb ≠ rb) (B : Nat) (hfb : B ≤ fb) (hrb : B ≤ rb) (hsz : B ≤ w.heap.size) :
    Calls Tryd.prog 52 #[.pointer (some ⟨rb, 0, none⟩), .pointer (some ⟨fb, 0, none⟩), .int .u64 1] w fun e w' => e = .returned (.tuple #[]) ∧ ∃ A c, Blk w' fb 26 #[.int .u64 8, .int .u64 n, .int .u64 0, .int .u64 0, .int .u64 0, .bool true, .slice A l1.length c, .slice none 0 0, .slice none 0 0] ∧ w'.ownsRow 0 5 1 (.slice A l1.length c) l1.length (l1.map (Value.int .u8)) ∧ (∃ v', Blk w' rb 70 #[v', .int .i64 0] ∧ Rd w' .u8 v' []) ∧ Below B w w' ∧ B ≤ w'.heap.size := by
  have hb1 : bits .and .u64 1 1 = 1 := by decide +kernel
  have hb2 : bits .and .u64 1 4 = 0 := by decide +kernel
  have hb3 : bits .and .u64 1 2 = 0 := by decide +kernel
  have hlw : IntKind.u64.wrap (l1.length : Int) = (l1.length : Int) := Go.IntWalk.u64_in _ (by omega)
  go_enter Tryd.func52, Tryd.ntmps52
  go_wp2_with fail
  (with_reducible refine (rnum_own rb v l n l1 w hR hr hk (by omega) ht).mono ?_)
  rintro e w1 ⟨rfl, pv, hR1, ho1, hg1⟩
  have hO1 := hO.grown hg1 (by simpa using hne)
  have hB1 : Below B w w1 := (Below.refl _ _).grown hg1 hsz (fun m hm => by simp only [Option.some.injEq] at hm; omega)
  have hs1 : B ≤ w1.heap.size := Nat.le_trans hsz hg1.size
  have c0 : World.cell? w1 ⟨fb, 0, none⟩ = some (.int .u64 8) := hO1.cell 0
  have c1 : World.cell? w1 ⟨fb, 1, none⟩ = some (.int .u64 0) := hO1.cell 1
  have c2 : World.cell? w1 ⟨fb, 2, none⟩ = some (.int .u64 0) := hO1.cell 2
  have c3 : World.cell? w1 ⟨fb, 3, none⟩ = some (.int .u64 0) := hO1.cell 3
  have c4 : World.cell? w1 ⟨fb, 4, none⟩ = some (.int .u64 0) := hO1.cell 4
  have c5 : World.cell? w1 ⟨fb, 5, none⟩ = some (.bool false) := hO1.cell 5
  have c6 : World.cell? w1 ⟨fb, 6, none⟩ = some (.slice none 0 0) := hO1.cell 6
  have c7 : World.cell? w1 ⟨fb, 7, none⟩ = some (.slice none 0 0) := hO1.cell 7
  have c8 : World.cell? w1 ⟨fb, 8, none⟩ = some (.slice none 0 0) := hO1.cell 8
  have f0 := hO1.frozen 0
  have f1 := hO1.frozen 1
  have f2 := hO1.frozen 2
  have f3 := hO1.frozen 3
  have f4 := hO1.frozen 4
  have f5 := hO1.frozen 5
  have f6 := hO1.frozen 6
  have f7 := hO1.frozen 7
  have f8 := hO1.frozen 8
  obtain ⟨A1, cc1, rfl, _⟩ := sl_of_own ho1
  obtain ⟨W2, hW2⟩ : ∃ W2, W2 = (w1.setCell ⟨fb, 1, none⟩ (.int .u64 n)).setCell ⟨fb, 5, none⟩ (.bool true) := ⟨_, rfl⟩
  have hg2 : w1.grownBy W2 (some fb) := by rw [hW2]; exact grown_set (grown_set (grown_refl w1 _) 1 _) 5 _
  have hO2 : Blk W2 fb 26 #[.int .u64 8, .int .u64 n, .int .u64 0, .int .u64 0, .int .u64 0, .bool true, .slice none 0 0, .slice none 0 0, .slice none 0 0] := by rw [hW2]; simpa using (hO1.set_ 1 (.int .u64 n)).set_ 5 (.bool true)
  have hR2 := hR1.grown hg2 (by simpa using Ne.symm hne)
  have ho2 := own_grown ho1 hg2 (.inr (own_blk_ne ho1 hO1 (by decide)))
  have hB2 : Below B w W2 := hB1.grown hg2 hs1 (fun m hm => by simp only [Option.some.injEq] at hm; omega)
  have hs2 : B ≤ W2.heap.size := Nat.le_trans hs1 hg2.size
  have e0 : ((w1.setCell ⟨fb, 1, none⟩ (.int .u64 n)).setCell ⟨fb, 5, none⟩ (.bool true)).cell? ⟨rb, 0, none⟩ = some (.slice A1 l1.length cc1) := by rw [← hW2]; exact hR2.cell 0
  have htk := rtk_all rb _ l1 W2 hR2 ho2 (by omega)
  clear hR1 ho1 hg1 hO hR hr hB1 hg2
  go_wp2_with fail
  rw [← hW2]
  (with_reducible refine htk.mono ?_)
  rintro e w3 ⟨D, rfl, hoD, ⟨rv, hR3, hrv⟩, hg3⟩
  have hO3 := hO2.grown hg3 (by simpa using hne)
  have hB3 : Below B w w3 := hB2.grown hg3 hs2 (fun m hm => by simp only [Option.some.injEq] at hm; omega)
  have hs3 : B ≤ w3.heap.size := Nat.le_trans hs2 hg3.size
  obtain ⟨AD, cD, rfl, _⟩ := sl_of_own hoD
  have g6 : w3.cell? ⟨fb, 6, none⟩ = some (.slice none 0 0) := hO3.cell 6
  have f6' := hO3.frozen 6
  clear htk hO2 hR2 ho2 hB2 hO1
  go_wp2_with fail
  (first | go_end0 | ((try simp only [Exit.inBlock, Exit.then]); refine bodyPost_ret (results_none rfl _ _ _) rfl ?_))
  have hgF := grown_set (grown_refl w3 (some fb)) 6 (.slice AD l1.length cD)
  obtain ⟨Arv, crv, rfl⟩ := hrv.form
  exact ⟨rfl, AD, cD, by simpa using hO3.set_ 6 (.slice AD l1.length cD), own_grown hoD hgF (.inr (own_blk_ne hoD hO3 (by decide))), ⟨_, hR3.grown hgF (by simpa using Ne.symm hne), Rd.emp _ _ _ _ (by have := (hrv.rdv).2.2; omega)⟩, hB3.grown hgF hs3 (fun m hm => by simp only [Option.some.injEq] at hm; omega), Nat.le_trans hs3 hgF.size⟩
set_option maxHeartbeats 8000000 in
set_option maxRecDepth 100000 in
theorem fillE9 (fb rb : Nat) (v : Value) (l l1 : List Int) (n : Int) (w : World) (hO : Blk w fb 26 #[.int .u64 8, .int .u64 0, .int .u64 0, .int .u64 0, .int .u64 0, .bool false, .slice none 0 0, .slice none 0 0, .slice none 0 0]) (hR : Blk w rb 70 #[v, .int .i64 0]) (hr : w.ownsRow 0 5 1 v l.length (l.map (Value.int .u8))) (hk : BytesOk l) (hl : l.length ≤ 1000) (hl1 : l1.length ≤ 1000) (ht : vtake l = some (n, l1)) (hne : fb ≠ rb) (B : Nat) (hfb : B ≤ fb) (hrb : B ≤ rb) (hsz : B ≤ w.heap.size) :
    Calls Tryd.prog 37 #[.pointer (some ⟨rb, 0, none⟩), .pointer (some ⟨fb, 0, none⟩), .int .u64 1] w fun e w' => e = .returned (.tuple #[]) ∧ ∃ A c, Blk w' fb 26 #[.int .u64 8, .int .u64 n, .int .u64 0, .int .u64 0, .int .u64 0, .bool true, .slice A l1.length c, .slice none 0 0, .slice none 0 0] ∧ w'.ownsRow 0 5 1 (.slice A l1.length c) l1.length (l1.map (Value.int .u8)) ∧ (∃ v', Blk w' rb 70 #[v', .int .i64 0] ∧ Rd w' .u8 v' []) ∧ Below B w w' ∧ B ≤ w'.heap.size := by
  have c0 : World.cell? w ⟨fb, 0, none⟩ = some (.int .u64 8) := hO.cell 0
  have c1 : World.cell? w ⟨fb, 1, none⟩ = some (.int .u64 0) := hO.cell 1
  have c2 : World.cell? w ⟨fb, 2, none⟩ = some (.int .u64 0) := hO.cell 2
  have c3 : World.cell? w ⟨fb, 3, none⟩ = some (.int .u64 0) := hO.cell 3
  have c4 : World.cell? w ⟨fb, 4, none⟩ = some (.int .u64 0) := hO.cell 4
  have c5 : World.cell? w ⟨fb, 5, none⟩ = some (.bool false) := hO.cell 5
  have c6 : World.cell? w ⟨fb, 6, none⟩ = some (.slice none 0 0) := hO.cell 6
  have c7 : World.cell? w ⟨fb, 7, none⟩ = some (.slice none 0 0) := hO.cell 7
  have c8 : World.cell? w ⟨fb, 8, none⟩ = some (.slice none 0 0) := hO.cell 8
  have hst := streamE1 fb rb v l l1 n w hO hR hr hk hl hl1 ht hne B hfb hrb hsz
  go_enter Tryd.func37, Tryd.ntmps37
  go_wp2_with fail
  (with_reducible refine (numbers8 _).mono ?_)
  rintro e w0 ⟨rfl, rfl⟩
  go_wp2_with fail
  refine wp_loop_rounds 1 ?_
  rw [rounds_succ]
  go_wp2_with fail
  (with_reducible refine hst.mono ?_)
  rintro e w3 ⟨rfl, hfin⟩
  go_wp2_with fail
  (first | go_end0 | ((try simp only [Exit.inBlock, Exit.then]); refine bodyPost_ret (results_none rfl _ _ _) rfl ?_))
  exact ⟨rfl, hfin⟩
set_option maxHeartbeats 8000000 in
set_option maxRecDepth 100000 in
theorem fillE48 (fb rb : Nat) (v : Value) (l1 : List Int) (w : World) (hO : Blk w fb 26 #[.int .u64 48, .int .u64 0, .int .u64 0, .int .u64 0, .int .u64 0, .bool false, .slice none 0 0, .slice none 0 0, .slice none 0 0]) (hR : Blk w rb 70 #[v, .int .i64 0]) (hr : w.ownsRow 0 5 1 v l1.length (l1.map (Value.int .u8))) (hl1 : l1.length ≤ 1000) (hne : fb ≠ rb) (B : Nat) (hfb : B ≤ fb) (hrb : B ≤ rb) (hsz : B ≤ w.heap.size) :
    Calls Tryd.prog 37 #[.pointer (some ⟨rb, 0, none⟩), .pointer (some ⟨fb, 0, none⟩), .int .u64 0] w fun e w' => e = .returned (.tuple #[]) ∧ ∃ A c, Blk w' fb 26 #[.int .u64 48, .int .u64 0, .int .u64 0, .int .u64 0, .int .u64 0, .bool false, .slice A l1.length c, .slice none 0 0, .slice none 0 0] ∧ w'.ownsRow 0 5 1 (.slice A l1.length c) l1.length (l1.map (Value.int .u8)) ∧ (∃ v', Blk w' rb 70 #[v', .int .i64 0] ∧ Rd w' .u8 v' []) ∧ Below B w w' ∧ B ≤ w'.heap.size := by
  have hb1 : bits .and .u64 0 1 = 0 := by decide +kernel
  have hlw : IntKind.u64.wrap (l1.length : Int) = (l1.length : Int) := Go.IntWalk.u64_in _ (by omega)
  have c0 : World.cell? w ⟨fb, 0, none⟩ = some (.int .u64 48) := hO.cell 0
  have c1 : World.cell? w ⟨fb, 1, none⟩ = some (.int .u64 0) := hO.cell 1
  have c2 : World.cell? w ⟨fb, 2, none⟩ = some (.int .u64 0) := hO.cell 2
  have c3 : World.cell? w ⟨fb, 3, none⟩ = some (.int .u64 0) := hO.cell 3
  have c4 : World.cell? w ⟨fb, 4, none⟩ = some (.int .u64 0) := hO.cell 4
  have c5 : World.cell? w ⟨fb, 5, none⟩ = some (.bool false) := hO.cell 5
  have c6 : World.cell? w ⟨fb, 6, none⟩ = some (.slice none 0 0) := hO.cell 6
  have c7 : World.cell? w ⟨fb, 7, none⟩ = some (.slice none 0 0) := hO.cell 7
  have c8 : World.cell? w ⟨fb, 8, none⟩ = some (.slice none 0 0) := hO.cell 8
  obtain ⟨A1, cc1, rfl, _⟩ := sl_of_own hr
  have e0 : w.cell? ⟨rb, 0, none⟩ = some (.slice A1 l1.length cc1) := hR.cell 0
  have htk := rtk_all rb _ l1 w hR hr (by omega)
  go_enter Tryd.func37, Tryd.ntmps37
  go_wp2_with fail
  (with_reducible refine (numbers48 _).mono ?_)
  rintro e w0 ⟨rfl, rfl⟩
  go_wp2_with fail
  refine wp_loop_rounds 1 ?_
  rw [rounds_succ]
  go_wp2_with fail
  (with_reducible refine htk.mono ?_)
  rintro e w3 ⟨D, rfl, hoD, ⟨rv, hR3, hrv⟩, hg3⟩
  have hO3 := hO.grown hg3 (by simpa using hne)
  have hB3 : Below B w w3 := (Below.refl _ _).grown hg3 hsz (fun m hm => by simp only [Option.some.injEq] at hm; omega)
  have hs3 : B ≤ w3.heap.size := Nat.le_trans hsz hg3.size
  obtain ⟨AD, cD, rfl, _⟩ := sl_of_own hoD
  have g6 : w3.cell? ⟨fb, 6, none⟩ = some (.slice none 0 0) := hO3.cell 6
  have f6' := hO3.frozen 6
  clear htk hO hR hr e0 c0 c1 c2 c3 c4 c5 c6 c7 c8
  go_wp2_with fail
  (first | go_end0 | ((try simp only [Exit.inBlock, Exit.then]); refine bodyPost_ret (results_none rfl _ _ _) rfl ?_))
  have hgF := grown_set (grown_refl w3 (some fb)) 6 (.slice AD l1.length cD)
  obtain ⟨Arv, crv, rfl⟩ := hrv.form
  exact ⟨rfl, AD, cD, by simpa using hO3.set_ 6 (.slice AD l1.length cD), own_grown hoD hgF (.inr (own_blk_ne hoD hO3 (by decide))), ⟨_, hR3.grown hgF (by simpa using Ne.symm hne), Rd.emp _ _ _ _ (by have := (hrv.rdv).2.2; omega)⟩, hB3.grown hgF hs3 (fun m hm => by simp only [Option.some.injEq] at hm; omega), Nat.le_trans hs3 hgF.size⟩

end Go.Proofs.YtbigbnfllkacoaaDoor
