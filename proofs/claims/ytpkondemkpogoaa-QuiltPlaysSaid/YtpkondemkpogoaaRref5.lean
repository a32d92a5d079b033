/-
  The reference quilt: Take.
-/
import Derived.Test.YtpkondemkpogoaaRref4
namespace Go.Proofs.Ytpkondemkpogoaa
open Go.RowKit
set_option linter.unusedVariables false
set_option linter.unusedSimpArgs false

theorem rdv_lit1 (w : World) (a : Value) : RdV (w.alloc (.cells #[a] 5)) 1 (some ⟨w.heap.size, 0, none⟩) 1 [a] :=
  (mid_of_own (World.ownsRow_lit (size := 1) (e := 5) w #[a] 1 (Nat.le_refl _) (by decide) rfl)).rdv.1
def slLen : Value → Nat
  | .slice _ n _ => n
  | _ => 0
set_option maxHeartbeats 8000000 in
set_option maxRecDepth 100000 in
theorem rtake_law (g mb : Nat) (es : List (Int × Int)) (q : Q) (m : Int) (w : World) (hX : RX w g mb es q) (hR : XR es q) (hI : QI q) (hsm : es.length ≤ 1000000) (hm : -9223372036854775808 ≤ m ∧ m ≤ 9223372036854775807) :
    Calls Try.prog 25 #[.pointer (some ⟨g, 0, none⟩), .int .i64 m] w fun e w' => ∃ v, e = .returned (.tuple #[v, .bool (q.take m).done]) ∧ Rd w' .u8 v (q.got m) ∧ RX w' g mb es (q.take m) ∧
      ∃ w1 w2, Below w.heap.size w w1 ∧ w1.grownBy w2 (some g) ∧ Blk w1 g 59 #[.map (some mb), .int .u64 q.rd, .int .u64 q.hi, .int .u64 q.la, .bool q.kn] ∧ Below w2.heap.size w2 w' := by
  obtain ⟨i0, hi0, hz0, hz1, hz2⟩ := info_parts infoB
  have hry := rready_law g mb es q w hX hR hI hsm
  have hgl := (hI.take m).2.2.1
  have hgb := (hI.take m).2.2.2
  have hnle := q.n_le m
  have hrh := rdy_hld q.rd q.L
  have hln := hR.len hI
  have hlo := hI.k.lo
  have hrd := hI.rd
  have hgot := hR.got hI m
  have hglt := hX.1.lt
  obtain ⟨ry, hryy⟩ : ∃ ry, ry = rdy q.rd q.L := ⟨_, rfl⟩
  obtain ⟨N, hN⟩ : ∃ N, N = q.n m := ⟨_, rfl⟩
  have hNn : N = min ry (max m 0).toNat := by rw [hN, hryy]; rfl
  rw [← hryy] at hry
  rw [← hN] at hgl hnle hgot
  rw [← hryy] at hnle hrh
  have hNs : N ≤ 1000000 := by omega
  have HN := Lib.hid hN
  have HNN := Lib.hid hNn
  have HGL := Lib.hid hgl
  have hrs : (ry : Int) ≤ 1000000 := by omega
  clear hN hryy hNn hgl hln
  go_enter Try.func25, Try.ntmps25
  go_wp2_with fail
  (with_reducible refine hry.mono ?_)
  rintro e w1 ⟨rfl, hb1⟩
  have hX1 := hX.below hb1
  clear hry hX
  go_wp2_with fail
  go_loopw [6] (fun s6 wr => ∃ (j : Nat) (A : Option Addr) (c : Nat), s6 = .slice A j c ∧ j ≤ N ∧ wr.ownsRow w.heap.size 5 1 (.slice A j c) j (((q.got m).take j).map (Value.int .u8)) ∧ RX wr g mb es q ∧ Below w.heap.size w wr) (fun s6 _ => N - slLen s6)
  case atStart => exact ⟨0, none, 0, rfl, Nat.zero_le _, World.ownsRow_nil _ _ _ _, hX1, hb1⟩
  case round =>
    clear hX1 hb1
    obtain ⟨j, A, c, rfl, hj, hO, hX, hB⟩ := hrel
    by_cases hjl : j < N
    · have hjI : (j : Int) < (ry : Int) := by omega
      have hjm : (j : Int) < m := by have := HNN.out; omega
      obtain ⟨x, hx⟩ : ∃ x, x = (q.got m).getD j 0 := ⟨_, rfl⟩
      have hl := hgot j hjl
      rw [← hx] at hl
      have hxv : (lkp es (q.rd + (j : Int))).getD 0 = x := by rw [hl]; rfl
      have hw1 : IntKind.u64.wrap (j : Int) = j := Go.IntWalk.u64_in _ (by omega)
      have hw2 : IntKind.u64.wrap (q.rd + (j : Int)) = q.rd + j := Go.IntWalk.u64_in _ (by simp only [QM] at hrd; omega)
      have hkb : 0 ≤ q.rd + (j : Int) ∧ q.rd + (j : Int) ≤ 18446744073709551615 := by simp only [QM] at hrd; omega
      have yl : (Instr.lookup 57 (.map (some mb)) (.int .u64 (q.rd + (j : Int))) false).run Try.prog wr.drew = .ok (.int .u8 x) wr.drew := by have := RMap.look (hX.2.below (below_drewN (Below.refl _ wr) 1)) hkb; rw [hxv] at this; exact this
      have y0 : wr.cell? ⟨g, 0, none⟩ = some (.map (some mb)) := hX.1.cell 0
      have y1 : wr.cell? ⟨g, 1, none⟩ = some (.int .u64 q.rd) := hX.1.cell 1
      have htk : (q.got m).take (j + 1) = (q.got m).take j ++ [x] := by
        have h1 : j < (q.got m).length := by rw [HGL.out]; exact hjl
        rw [List.take_add_one, hx, List.getD_eq_getElem?_getD, List.getElem?_eq_getElem h1]
        rfl
      have HXV := Lib.hid hxv
      have HKB := Lib.hid hkb
      have HTK := Lib.hid htk
      have HO := Lib.hid hO
      have HX := Lib.hid hX
      have HB := Lib.hid hB
      clear hxv hkb htk hO hX hB hx hl
      go_wp2_with fail
      refine wp_region_held_drew (S := fun w' => w'.cell? ⟨g, 0, none⟩ = some (.map (some mb)) ∧ w'.cell? ⟨g, 1, none⟩ = some (.int .u64 q.rd) ∧ (Instr.lookup 57 (.map (some mb)) (.int .u64 (q.rd + (j : Int))) false).run Try.prog w' = .ok (.int .u8 x) w') (by kernel_rfl) (by first | exact ⟨y0, y1, yl⟩ | exact ⟨a0, a1, al⟩ | exact ⟨b0, b1, bl⟩) (fun _ => ?_)
      refine wpAnyH_take (i := 0) (oi := ({ dst := some 22, op := Op.move (Operand.tmp 6), type := 22, pos := _, after := #[], guard := none } : Oper)) (v := ?_) rfl (by kernel_rfl) (by kernel_rfl) (by kernel_rfl) (fun _ _ _ h => h) (Or.inl ⟨by rfl, ?_⟩) (by first | exact ⟨y0, y1, yl⟩ | exact ⟨a0, a1, al⟩ | exact ⟨b0, b1, bl⟩) ?_
      rotate_left
      · intro w hSw
        try dsimp only at hSw
        go_simp
        try with_reducible rfl
      try simp only [Act.put, List.setIfInBounds_toArray, List.set_cons_zero, List.set_cons_succ]
      refine wpAnyH_take (i := 1) (oi := ({ dst := some 23, op := Op.move (Operand.tmp 0), type := 50, pos := _, after := #[], guard := none } : Oper)) (v := ?_) rfl (by kernel_rfl) (by kernel_rfl) (by kernel_rfl) (fun _ _ _ h => h) (Or.inl ⟨by rfl, ?_⟩) (by first | exact ⟨y0, y1, yl⟩ | exact ⟨a0, a1, al⟩ | exact ⟨b0, b1, bl⟩) ?_
      rotate_left
      · intro w hSw
        try dsimp only at hSw
        go_simp
        try with_reducible rfl
      try simp only [Act.put, List.setIfInBounds_toArray, List.set_cons_zero, List.set_cons_succ]
      refine wpAnyH_take (i := 2) (oi := ({ dst := some 24, op := Op.nilCheck (Operand.tmp 23), type := 0, pos := _, after := #[{ on := 1, ground := Ground.data }], guard := none } : Oper)) (v := ?_) rfl (by kernel_rfl) (by kernel_rfl) (by kernel_rfl) (fun _ _ _ h => h) (Or.inl ⟨by rfl, ?_⟩) (by first | exact ⟨y0, y1, yl⟩ | exact ⟨a0, a1, al⟩ | exact ⟨b0, b1, bl⟩) ?_
      rotate_left
      · intro w hSw
        try dsimp only at hSw
        go_simp
        try with_reducible rfl
      try simp only [Act.put, List.setIfInBounds_toArray, List.set_cons_zero, List.set_cons_succ]
      refine wpAnyH_take (i := 3) (oi := ({ dst := some 25, op := Op.fieldAddr 59 (Operand.tmp 24) 0, type := 0, pos := _, after := #[{ on := 2, ground := Ground.data }], guard := none } : Oper)) (v := ?_) rfl (by kernel_rfl) (by kernel_rfl) (by kernel_rfl) (fun _ _ _ h => h) (Or.inl ⟨by rfl, ?_⟩) (by first | exact ⟨y0, y1, yl⟩ | exact ⟨a0, a1, al⟩ | exact ⟨b0, b1, bl⟩) ?_
      rotate_left
      · intro w hSw
        try dsimp only at hSw
        go_simp
        try with_reducible rfl
      try simp only [Act.put, List.setIfInBounds_toArray, List.set_cons_zero, List.set_cons_succ]
      refine wpAnyH_take (i := 4) (oi := ({ dst := some 26, op := Op.load 57 (Operand.tmp 25), type := 57, pos := _, after := #[{ on := 3, ground := Ground.data }], guard := none } : Oper)) (v := ?_) rfl (by kernel_rfl) (by kernel_rfl) (by kernel_rfl) (fun _ _ _ h => h) (Or.inl ⟨by rfl, ?_⟩) (by first | exact ⟨y0, y1, yl⟩ | exact ⟨a0, a1, al⟩ | exact ⟨b0, b1, bl⟩) ?_
      rotate_left
      · intro w hSw
        try dsimp only at hSw
        go_simp
        try with_reducible rfl
      try simp only [Act.put, List.setIfInBounds_toArray, List.set_cons_zero, List.set_cons_succ]
      refine wpAnyH_take (i := 5) (oi := ({ dst := some 27, op := Op.move (Operand.tmp 0), type := 50, pos := _, after := #[], guard := none } : Oper)) (v := ?_) rfl (by kernel_rfl) (by kernel_rfl) (by kernel_rfl) (fun _ _ _ h => h) (Or.inl ⟨by rfl, ?_⟩) (by first | exact ⟨y0, y1, yl⟩ | exact ⟨a0, a1, al⟩ | exact ⟨b0, b1, bl⟩) ?_
      rotate_left
      · intro w hSw
        try dsimp only at hSw
        go_simp
        try with_reducible rfl
      try simp only [Act.put, List.setIfInBounds_toArray, List.set_cons_zero, List.set_cons_succ]
      refine wpAnyH_take (i := 6) (oi := ({ dst := some 28, op := Op.nilCheck (Operand.tmp 27), type := 0, pos := _, after := #[{ on := 5, ground := Ground.data }], guard := none } : Oper)) (v := ?_) rfl (by kernel_rfl) (by kernel_rfl) (by kernel_rfl) (fun _ _ _ h => h) (Or.inl ⟨by rfl, ?_⟩) (by first | exact ⟨y0, y1, yl⟩ | exact ⟨a0, a1, al⟩ | exact ⟨b0, b1, bl⟩) ?_
      rotate_left
      · intro w hSw
        try dsimp only at hSw
        go_simp
        try with_reducible rfl
      try simp only [Act.put, List.setIfInBounds_toArray, List.set_cons_zero, List.set_cons_succ]
      refine wpAnyH_take (i := 7) (oi := ({ dst := some 29, op := Op.fieldAddr 59 (Operand.tmp 28) 1, type := 0, pos := _, after := #[{ on := 6, ground := Ground.data }], guard := none } : Oper)) (v := ?_) rfl (by kernel_rfl) (by kernel_rfl) (by kernel_rfl) (fun _ _ _ h => h) (Or.inl ⟨by rfl, ?_⟩) (by first | exact ⟨y0, y1, yl⟩ | exact ⟨a0, a1, al⟩ | exact ⟨b0, b1, bl⟩) ?_
      rotate_left
      · intro w hSw
        try dsimp only at hSw
        go_simp
        try with_reducible rfl
      try simp only [Act.put, List.setIfInBounds_toArray, List.set_cons_zero, List.set_cons_succ]
      refine wpAnyH_take (i := 8) (oi := ({ dst := some 30, op := Op.load 27 (Operand.tmp 29), type := 27, pos := _, after := #[{ on := 7, ground := Ground.data }], guard := none } : Oper)) (v := ?_) rfl (by kernel_rfl) (by kernel_rfl) (by kernel_rfl) (fun _ _ _ h => h) (Or.inl ⟨by rfl, ?_⟩) (by first | exact ⟨y0, y1, yl⟩ | exact ⟨a0, a1, al⟩ | exact ⟨b0, b1, bl⟩) ?_
      rotate_left
      · intro w hSw
        try dsimp only at hSw
        go_simp
        try with_reducible rfl
      try simp only [Act.put, List.setIfInBounds_toArray, List.set_cons_zero, List.set_cons_succ]
      refine wpAnyH_take (i := 9) (oi := ({ dst := some 31, op := Op.move (Operand.tmp 6), type := 22, pos := _, after := #[], guard := none } : Oper)) (v := ?_) rfl (by kernel_rfl) (by kernel_rfl) (by kernel_rfl) (fun _ _ _ h => h) (Or.inl ⟨by rfl, ?_⟩) (by first | exact ⟨y0, y1, yl⟩ | exact ⟨a0, a1, al⟩ | exact ⟨b0, b1, bl⟩) ?_
      rotate_left
      · intro w hSw
        try dsimp only at hSw
        go_simp
        try with_reducible rfl
      try simp only [Act.put, List.setIfInBounds_toArray, List.set_cons_zero, List.set_cons_succ]
      refine wpAnyH_take (i := 10) (oi := ({ dst := some 32, op := Op.call { callee := Callee.builtin Builtin.len, args := #[Operand.tmp 31], argTypes := #[22] }, type := 3, pos := _, after := #[{ on := 9, ground := Ground.data }], guard := none } : Oper)) (v := ?_) rfl (by kernel_rfl) (by kernel_rfl) (by kernel_rfl) (fun _ _ _ h => h) (Or.inl ⟨by rfl, ?_⟩) (by first | exact ⟨y0, y1, yl⟩ | exact ⟨a0, a1, al⟩ | exact ⟨b0, b1, bl⟩) ?_
      rotate_left
      · intro w hSw
        try dsimp only at hSw
        go_simp
        try with_reducible rfl
      try simp only [Act.put, List.setIfInBounds_toArray, List.set_cons_zero, List.set_cons_succ]
      refine wpAnyH_take (i := 11) (oi := ({ dst := some 33, op := Op.convert 3 27 (Operand.tmp 32), type := 27, pos := _, after := #[{ on := 10, ground := Ground.data }], guard := none } : Oper)) (v := ?_) rfl (by kernel_rfl) (by kernel_rfl) (by kernel_rfl) (fun _ _ _ h => h) (Or.inl ⟨by rfl, ?_⟩) (by first | exact ⟨y0, y1, yl⟩ | exact ⟨a0, a1, al⟩ | exact ⟨b0, b1, bl⟩) ?_
      rotate_left
      · intro w hSw
        try dsimp only at hSw
        go_simp
        try with_reducible rfl
      try simp only [Act.put, List.setIfInBounds_toArray, List.set_cons_zero, List.set_cons_succ]
      refine wpAnyH_take (i := 12) (oi := ({ dst := some 34, op := Op.binOp BinOp.add 27 (Operand.tmp 30) (Operand.tmp 33) 27, type := 27, pos := _, after := #[{ on := 8, ground := Ground.data }, { on := 11, ground := Ground.data }], guard := none } : Oper)) (v := ?_) rfl (by kernel_rfl) (by kernel_rfl) (by kernel_rfl) (fun _ _ _ h => h) (Or.inl ⟨by rfl, ?_⟩) (by first | exact ⟨y0, y1, yl⟩ | exact ⟨a0, a1, al⟩ | exact ⟨b0, b1, bl⟩) ?_
      rotate_left
      · intro w hSw
        try dsimp only at hSw
        go_simp
        try with_reducible rfl
      try simp only [Act.put, List.setIfInBounds_toArray, List.set_cons_zero, List.set_cons_succ]
      refine wpAnyH_take (i := 13) (oi := ({ dst := some 35, op := Op.lookup 57 (Operand.tmp 26) (Operand.tmp 34) false, type := 5, pos := _, after := #[{ on := 4, ground := Ground.data }, { on := 12, ground := Ground.data }], guard := none } : Oper)) (v := ?_) rfl (by kernel_rfl) (by kernel_rfl) (by kernel_rfl) (fun _ _ _ h => h) (Or.inl ⟨by rfl, ?_⟩) (by first | exact ⟨y0, y1, yl⟩ | exact ⟨a0, a1, al⟩ | exact ⟨b0, b1, bl⟩) ?_
      rotate_left
      · intro w hSw
        try dsimp only at hSw
        go_simp
        try with_reducible rfl
      try simp only [Act.put, List.setIfInBounds_toArray, List.set_cons_zero, List.set_cons_succ]
      refine wpAnyH_ready (rs := [14]) (by kernel_rfl) (by simp) ?_
      refine AllReadyH.cons (o := ({ dst := some 36, op := Op.buildSlice 22 1 #[(0, Operand.tmp 35)], type := 22, pos := _, after := #[{ on := 13, ground := Ground.data }], guard := none } : Oper)) rfl (fun K hK => ?_) AllReadyH.nil
      go_simp
      have hba : Below wr.heap.size wr ((wr.alloc (.cells #[.int .u8 x] 5)).drew) := below_drewN ((Below.refl wr.heap.size wr).alloc (Nat.le_refl _) (.cells #[.int .u8 x] 5)) 1
      have hOa := own_same HO.out hba
      have hXa := HX.out.below hba
      have hBa := HB.out.trans (hba.mono HB.out.size)
      have a0 : ((wr.alloc (.cells #[.int .u8 x] 5)).drew).cell? ⟨g, 0, none⟩ = some (.map (some mb)) := hXa.1.cell 0
      have a1 : ((wr.alloc (.cells #[.int .u8 x] 5)).drew).cell? ⟨g, 1, none⟩ = some (.int .u64 q.rd) := hXa.1.cell 1
      have al : (Instr.lookup 57 (.map (some mb)) (.int .u64 (q.rd + (j : Int))) false).run Try.prog ((wr.alloc (.cells #[.int .u8 x] 5)).drew) = .ok (.int .u8 x) ((wr.alloc (.cells #[.int .u8 x] 5)).drew) := by have := RMap.look hXa.2 HKB.out; rw [HXV.out] at this; exact this
      refine hK.out _ _ (by first | exact ⟨y0, y1, yl⟩ | exact ⟨a0, a1, al⟩ | exact ⟨b0, b1, bl⟩) (fun _ => ?_)
      clear hK K
      try simp only [Act.put, List.setIfInBounds_toArray, List.set_cons_zero, List.set_cons_succ]
      refine wpAnyH_ready (rs := [15]) (by kernel_rfl) (by simp) ?_
      refine AllReadyH.cons (o := ({ dst := some 37, op := Op.call { callee := Callee.builtin Builtin.append, args := #[Operand.tmp 22, Operand.tmp 36], argTypes := #[22, 22] }, type := 22, pos := _, after := #[{ on := 0, ground := Ground.data }, { on := 14, ground := Ground.data }], guard := none } : Oper)) rfl (fun K hK => ?_) AllReadyH.nil
      refine step_append_any _ rfl _ _ 22 rfl w.heap.size 5 i0 _ 1 1 Try.underlying22 hi0 hz0 hz1 hz2 rfl (by decide) (.slice A j c) j (((q.got m).take j).map (Value.int .u8)) rfl hOa (some ⟨wr.heap.size, 0, none⟩) 1 1 [.int .u8 x] rfl (rdv_lit1 wr _) (oneInts .u8 [x]) (by unfold maxLen; omega) (by omega) hBa.size (fun h => by cases h) ?_
      intro v2 w4 hown2 hgrow2 hat2
      have hX4 : RX w4 g mb es q := ⟨hXa.1.grown hgrow2 (fun e => own_blk_ne hOa hXa.1 (by decide) e.symm), hXa.2.grown hgrow2 (fun e => own_rmap_ne hOa hXa.2 e.symm)⟩
      have hB4 := hBa.grown hgrow2 hBa.size (fun b hb => (hOa.lt b hb).1)
      have b0 : w4.cell? ⟨g, 0, none⟩ = some (.map (some mb)) := hX4.1.cell 0
      have b1 : w4.cell? ⟨g, 1, none⟩ = some (.int .u64 q.rd) := hX4.1.cell 1
      have bl : (Instr.lookup 57 (.map (some mb)) (.int .u64 (q.rd + (j : Int))) false).run Try.prog w4 = .ok (.int .u8 x) w4 := by have := RMap.look hX4.2 HKB.out; rw [HXV.out] at this; exact this
      refine hK.out _ _ (by first | exact ⟨y0, y1, yl⟩ | exact ⟨a0, a1, al⟩ | exact ⟨b0, b1, bl⟩) (fun _ => ?_)
      clear hK K
      try simp only [Act.put, List.setIfInBounds_toArray, List.set_cons_zero, List.set_cons_succ]
      refine wpAnyH_take (i := 16) (oi := ({ dst := some 6, op := Op.assign (Operand.tmp 37), type := 22, pos := _, after := #[{ on := 15, ground := Ground.data }, { on := 15, ground := Ground.chain }, { on := 0, ground := Ground.phase }, { on := 1, ground := Ground.phase }, { on := 2, ground := Ground.phase }, { on := 3, ground := Ground.phase }, { on := 4, ground := Ground.phase }, { on := 5, ground := Ground.phase }, { on := 6, ground := Ground.phase }, { on := 7, ground := Ground.phase }, { on := 8, ground := Ground.phase }, { on := 9, ground := Ground.phase }, { on := 10, ground := Ground.phase }, { on := 11, ground := Ground.phase }, { on := 12, ground := Ground.phase }, { on := 13, ground := Ground.phase }, { on := 14, ground := Ground.phase }, { on := 15, ground := Ground.phase }], guard := none } : Oper)) (v := ?_) rfl (by kernel_rfl) (by kernel_rfl) (by kernel_rfl) (fun _ _ _ h => h) (Or.inl ⟨by rfl, ?_⟩) (by first | exact ⟨y0, y1, yl⟩ | exact ⟨a0, a1, al⟩ | exact ⟨b0, b1, bl⟩) ?_
      rotate_left
      · intro w hSw
        try dsimp only at hSw
        go_simp
        try with_reducible rfl
      try simp only [Act.put, List.setIfInBounds_toArray, List.set_cons_zero, List.set_cons_succ]
      refine wpAnyH_done (by kernel_rfl) ?_ _
      have hown3 : w4.ownsRow w.heap.size 5 1 v2 (j + 1) (((q.got m).take (j + 1)).map (Value.int .u8)) := by rw [HTK.out, List.map_append]; exact hown2
      obtain ⟨A2, c2, rfl, _⟩ := sl_of_own hown3
      clear hown2 hgrow2 hat2 hOa hXa hBa hba
      go_wp2_with fail
      go_roundw
      case rel => exact ⟨j + 1, A2, c2, rfl, by omega, hown3, hX4, hB4⟩
      case measure => simp [slLen]; omega
    · obtain rfl : j = N := by omega
      have hO2 := hO
      rw [List.take_of_length_le (by have := HGL.out; omega)] at hO2
      have hro := rd_of_own (k := .u8) hO2
      have z0 : wr.cell? ⟨g, 1, none⟩ = some (.int .u64 q.rd) := hX.1.cell 1
      have zf := hX.1.frozen 1
      have hw1 : IntKind.u64.wrap (j : Int) = j := Go.IntWalk.u64_in _ (by omega)
      have hw2 : IntKind.u64.wrap (q.rd + (j : Int)) = q.rd + j := Go.IntWalk.u64_in _ (by simp only [QM] at hrd; omega)
      obtain ⟨W2, hW2⟩ : ∃ W2, W2 = wr.setCell ⟨g, 1, none⟩ (.int .u64 (q.rd + (j : Int))) := ⟨_, rfl⟩
      have hg2 : wr.grownBy W2 (some g) := by rw [hW2]; exact grown_set (grown_refl wr _) 1 _
      have hX2 : RX W2 g mb es (q.take m) := ⟨by rw [hW2]; have e : (q.take m).rd = q.rd + (j : Int) := (by rw [show (q.take m).rd = q.rd + (q.n m : Int) from rfl, ← HN.out]); rw [e, show (q.take m).hi = q.hi from rfl, show (q.take m).la = q.la from rfl, show (q.take m).kn = q.kn from rfl]; simpa using hX.1.set_ 1 (.int .u64 (q.rd + (j : Int))), hX.2.grown hg2 (by simpa using Ne.symm (blk_rmap_ne hX.1 hX.2))⟩
      have hro2 : Rd W2 .u8 (.slice A j c) (q.got m) := rd_of_own (k := .u8) (own_grown hO2 hg2 (.inr (own_blk_ne hO2 hX.1 (by decide))))
      have hdn := rdone_law g mb es (q.take m) W2 hX2
      have HC := Lib.hid (show (j : Int) < ry → (j : Int) < m → False by have := HNN.out; omega)
      by_cases hjr : (j : Int) < (ry : Int)
      · have hjm : ¬ (j : Int) < m := fun h => HC.out hjr h
        have hXc := hX.1
        clear hX hO hO2
        go_wp2_with fail
        rw [← hW2]
        (with_reducible refine hdn.mono ?_)
        rintro e w9 ⟨rfl, hb9⟩
        go_wp2_with fail
        go_ret2
        exact ⟨_, rfl, hro2.below hb9, hX2.below hb9, wr, W2, hB, hg2, hXc, hb9⟩
      · have hXc := hX.1
        clear hX hO hO2
        go_wp2_with fail
        rw [← hW2]
        (with_reducible refine hdn.mono ?_)
        rintro e w9 ⟨rfl, hb9⟩
        go_wp2_with fail
        go_ret2
        exact ⟨_, rfl, hro2.below hb9, hX2.below hb9, wr, W2, hB, hg2, hXc, hb9⟩

end Go.Proofs.Ytpkondemkpogoaa
