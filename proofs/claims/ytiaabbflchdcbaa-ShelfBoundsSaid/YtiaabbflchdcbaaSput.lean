/-
  Put: the refusals. No condition.
-/
import Derived.Test.YtiaabbflchdcbaaSlet
namespace Go.Proofs.Ytiaabbflchdcbaa
open Go.RowKit
set_option linter.unusedVariables false
set_option linter.unusedSimpArgs false

theorem keyR_size {l : List Int} {g n : Int} (hk : BytesOk l) : (keyR l g n).size = 34 := by
  unfold keyR
  split
  · next h => exact key_size (padT32 h hk)
  · exact key_size t32_zero
theorem keyR_one (l : List Int) (g n : Int) : (keyR l g n).all (·.oneCell') = true := by
  unfold keyR
  split <;> exact key_one _ _ _
theorem obj_zero (w : World) : (zeroValue 35).run Try.prog w = .ok (.agg #[.int .u64 0, .int .u64 0, .int .u8 0, .bool false, .slice none 0 0]) w := by kernel_rfl
theorem int_zero (w : World) : (zeroValue 3).run Try.prog w = .ok (.int .i64 0) w := by kernel_rfl
theorem built84 : ∀ (t : List Int) (g : Int), t.length = 32 → Try.prog.built 84 [(0, .agg (trkC t)), (1, .int .u64 g)] = some (lotC t g)
  | [a0, a1, a2, a3, a4, a5, a6, a7, a8, a9, a10, a11, a12, a13, a14, a15, a16, a17, a18, a19, a20, a21, a22, a23, a24, a25, a26, a27, a28, a29, a30, a31], g, _ => by kernel_rfl
theorem wpList_build2 {P : Program} {ops : Array Oper} {rest : List Oper} {o : Oper} {a : Act} {w : World} {Q : Exit → Act → World → Prop} (hg : o.guard = none) (t : TypeId) (i j : Nat) (x y : Operand) (ho : o.op = .build t #[(i, x), (j, y)]) (u v : Value) (hx : a.eval x = u) (hy : a.eval y = v) (cells : Array Value)
    (hb : P.built t [(i, u), (j, v)] = some cells) (h : wpList P ops Q rest (a.put o.dst (.agg cells)) w) : wpList P ops Q (o :: rest) a w := by
  have e : P.built t ((#[(i, x), (j, y)] : Array (Nat × Operand)).map fun (i, x) => (i, a.eval x)).toList = some cells := by
    simp only [List.map_toArray, List.map_cons, List.map_nil, hx, hy]
    exact hb
  refine wpList_build hg t _ ho (by rw [e]; rfl) ?_
  rw [e]
  exact h
/-- A group's size; nought where there is none. -/
def zget (Z : List (Lot × Int)) (x : Lot) : Int := match Z.find? (fun z => decide (z.1 = x)) with | some z => z.2 | none => 0
theorem KM.zlook {w : World} {zb : Nat} {Z : List (Lot × Int)} {x : Lot} (h : KM Try.prog 84 w zb (Z.map zkv)) (hz : ∀ z ∈ Z, LotOk z.1) (hx : LotOk x) : (Instr.lookup 77 (.map (some zb)) (.agg (lotC x.1 x.2)) false).run Try.prog w = .ok (.int .i64 (zget Z x)) w := by
  unfold zget
  cases hf : Z.find? (fun z => decide (z.1 = x)) with
  | some z =>
    have h1 := List.find?_some hf
    have h2 := List.mem_of_find?_eq_some hf
    simp only [decide_eq_true_eq] at h1
    have := h.look_yes law84 (t := 77) Try.underlying77 (key := .agg (lotC x.1 x.2)) (v := .int .i64 z.2) (List.mem_map.2 ⟨z, h2, by unfold zkv; rw [h1]⟩) false
    simpa using this
  | none =>
    have h1 := List.find?_eq_none.1 hf
    have := h.look_no law84 (t := 77) Try.underlying77 (int_zero w) (ok_lot hx.1 hx.2) (fun y hy e => by
      obtain ⟨z, hzm, rfl⟩ := List.mem_map.1 hy
      have h2 := h1 z hzm
      have h3 := lot_inj (hz z hzm).1 hx.1 (by injection e)
      exact h2 (by simpa using Prod.ext h3.1 h3.2)) false
    simpa using this
theorem place_zero (w : World) : (zeroValue 33).run Try.prog w = .ok (.agg #[.int .u64 0, .int .u64 0]) w := by kernel_rfl
set_option maxHeartbeats 4000000 in
set_option maxRecDepth 100000 in
theorem put_name (B sb lb zb tb : Nat) (lv v : Value) (room used g n p : Int) (gr : Bool) (dA : Option Addr) (dc : Nat) (l d : List Int) (E : List (En × Value)) (Z : List (Lot × Int)) (T : List (List Int × Int × Int)) (w : World) (hS : SX w B sb lb zb tb lv room used E Z T) (hv : Rd w .u8 v l) (hk : BytesOk l) (hll : l.length ≤ 1000000) (hd : Rd w .u8 (.slice dA d.length dc) d) (hdk : BytesOk d) (hdl : d.length ≤ 1000000) (hg : U64 g) (hn : U64 n) (hne : nameE l ≠ 0) :
    Calls Try.prog 12 #[.pointer (some ⟨sb, 0, none⟩), v, .agg #[.int .u64 g, .int .u64 n, .int .u8 p, .bool gr, (.slice dA d.length dc)]] w fun e w' => e = .returned (.int .i64 (nameE l)) ∧ SX w' B sb lb zb tb lv room used E Z T ∧ Below w.heap.size w w' := by
  have hO0 := Blk.new w 35 #[.int .u64 g, .int .u64 n, .int .u8 p, .bool gr, (.slice dA d.length dc)]
  have hb0 : Below w.heap.size w (w.alloc (.cells #[.int .u64 g, .int .u64 n, .int .u8 p, .bool gr, (.slice dA d.length dc)] 35)) := (Below.refl _ _).alloc (Nat.le_refl _) _
  have hS0 := hS.kept hb0
  have hv0 := hv.below hb0
  have hd0 := hd.below hb0
  obtain ⟨vA, vc, rfl⟩ := hv.form
  go_enter Try.func12, Try.ntmps12
  go_upto_region 1 with fail
  refine wp_world (fun wz => SX wz B sb lb zb tb lv room used E Z T ∧ Blk wz w.heap.size 35 #[.int .u64 g, .int .u64 n, .int .u8 p, .bool gr, (.slice dA d.length dc)] ∧ Rd wz .u8 (.slice vA l.length vc) l ∧ Rd wz .u8 (.slice dA d.length dc) d ∧ Below w.heap.size w wz) ⟨hS0, hO0, hv0, hd0, hb0⟩ ?_
  clear hS0 hO0 hv0 hd0 hb0 hS hv hd
  rintro w1 ⟨hS, hO, hv, hd, hb⟩
  have o0 : World.cell? w1 ⟨w.heap.size, 0, none⟩ = some ((.int .u64 g)) := hO.cell 0
  have o1 : World.cell? w1 ⟨w.heap.size, 1, none⟩ = some ((.int .u64 n)) := hO.cell 1
  have o2 : World.cell? w1 ⟨w.heap.size, 2, none⟩ = some ((.int .u8 p)) := hO.cell 2
  have o3 : World.cell? w1 ⟨w.heap.size, 3, none⟩ = some ((.bool gr)) := hO.cell 3
  have o4 : World.cell? w1 ⟨w.heap.size, 4, none⟩ = some ((.slice dA d.length dc)) := hO.cell 4
  have hnm := name_any (.slice vA l.length vc) l g n w1 hv hk (by omega)
  have hks := keyR_size (g := g) (n := n) hk
  obtain ⟨KV, hKV⟩ : ∃ KV, KV = keyR l g n := ⟨_, rfl⟩
  have hk1 := keyR_one l g n
  rw [← hKV] at hnm hks hk1
  have HKV := Lib.hid hKV
  clear hKV
  obtain ⟨ec, hec⟩ : ∃ ec, ec = nameE l := ⟨_, rfl⟩
  rw [← hec] at hnm
  have hz : (ec == 0) = false := by rw [hec]; simpa using hne
  have HEC := Lib.hid hec
  clear hec hne
  go_upto_region 4 with (first | (go_at_call 29; refine hnm.mono ?_; rintro e w2 ⟨rfl, hb2⟩) | (refine wpList_store_new rfl 71 (.tmp 7) (.tmp 22) rfl 71 _ KV rfl rfl (by rw [info71, hks]) (by rw [hks]; rfl) hk1 ?_) | fail)
  clear hnm o0 o1 o2 o3 o4
  have hba : Below w2.heap.size w2 (w2.alloc (.cells KV 71)) := (Below.refl _ _).alloc (Nat.le_refl _) _
  refine wp_world (fun wz => SX wz B sb lb zb tb lv room used E Z T ∧ Blk wz w.heap.size 35 #[.int .u64 g, .int .u64 n, .int .u8 p, .bool gr, (.slice dA d.length dc)] ∧ Blk wz w2.heap.size 71 KV ∧ Rd wz .u8 (.slice dA d.length dc) d ∧ Below w.heap.size w wz) ⟨(hS.kept hb2).kept hba, (hO.same hb2).same hba, Blk.new w2 71 KV, (hd.below hb2).below hba, (hb.trans (hb2.mono hb.size)).trans (hba.mono (Nat.le_trans hb.size hb2.size))⟩ ?_
  obtain ⟨kb, hkb⟩ : ∃ kb, kb = w2.heap.size := ⟨_, rfl⟩
  have hkw : w.heap.size < kb := by rw [hkb]; exact (hO.same hb2).lt
  rw [← hkb]
  clear hba hS hO hv hd hb hb2 hkb
  rintro w3 ⟨hS, hO, hV, hd, hb⟩
  go_wp2_with fail
  go_ret
  exact ⟨by rw [← HEC.out]; rfl, hS, hb⟩
set_option maxHeartbeats 4000000 in
set_option maxRecDepth 100000 in
theorem put_twice (B sb lb zb tb : Nat) (lv v : Value) (room used g n p : Int) (gr : Bool) (dA : Option Addr) (dc : Nat) (l d : List Int) (E : List (En × Value)) (Z : List (Lot × Int)) (T : List (List Int × Int × Int)) (w : World) (hS : SX w B sb lb zb tb lv room used E Z T) (hv : Rd w .u8 v l) (hk : BytesOk l) (hll : l.length ≤ 1000000) (hd : Rd w .u8 (.slice dA d.length dc) d) (hdk : BytesOk d) (hdl : d.length ≤ 1000000) (hg : U64 g) (hn : U64 n) (hne : nameE l = 0) (y : En × Value) (hy : y ∈ E) (hyk : y.1.t = padT l ∧ y.1.g = g ∧ y.1.n = n) :
    Calls Try.prog 12 #[.pointer (some ⟨sb, 0, none⟩), v, .agg #[.int .u64 g, .int .u64 n, .int .u8 p, .bool gr, (.slice dA d.length dc)]] w fun e w' => e = .returned (.int .i64 7) ∧ SX w' B sb lb zb tb lv room used E Z T ∧ Below w.heap.size w w' := by
  have hO0 := Blk.new w 35 #[.int .u64 g, .int .u64 n, .int .u8 p, .bool gr, (.slice dA d.length dc)]
  have hb0 : Below w.heap.size w (w.alloc (.cells #[.int .u64 g, .int .u64 n, .int .u8 p, .bool gr, (.slice dA d.length dc)] 35)) := (Below.refl _ _).alloc (Nat.le_refl _) _
  have hS0 := hS.kept hb0
  have hv0 := hv.below hb0
  have hd0 := hd.below hb0
  obtain ⟨vA, vc, rfl⟩ := hv.form
  go_enter Try.func12, Try.ntmps12
  go_upto_region 1 with fail
  refine wp_world (fun wz => SX wz B sb lb zb tb lv room used E Z T ∧ Blk wz w.heap.size 35 #[.int .u64 g, .int .u64 n, .int .u8 p, .bool gr, (.slice dA d.length dc)] ∧ Rd wz .u8 (.slice vA l.length vc) l ∧ Rd wz .u8 (.slice dA d.length dc) d ∧ Below w.heap.size w wz) ⟨hS0, hO0, hv0, hd0, hb0⟩ ?_
  clear hS0 hO0 hv0 hd0 hb0 hS hv hd
  rintro w1 ⟨hS, hO, hv, hd, hb⟩
  have o0 : World.cell? w1 ⟨w.heap.size, 0, none⟩ = some ((.int .u64 g)) := hO.cell 0
  have o1 : World.cell? w1 ⟨w.heap.size, 1, none⟩ = some ((.int .u64 n)) := hO.cell 1
  have o2 : World.cell? w1 ⟨w.heap.size, 2, none⟩ = some ((.int .u8 p)) := hO.cell 2
  have o3 : World.cell? w1 ⟨w.heap.size, 3, none⟩ = some ((.bool gr)) := hO.cell 3
  have o4 : World.cell? w1 ⟨w.heap.size, 4, none⟩ = some ((.slice dA d.length dc)) := hO.cell 4
  have hnm := name_any (.slice vA l.length vc) l g n w1 hv hk (by omega)
  have hks := keyR_size (g := g) (n := n) hk
  obtain ⟨KV, hKV⟩ : ∃ KV, KV = keyR l g n := ⟨_, rfl⟩
  have hk1 := keyR_one l g n
  rw [← hKV] at hnm hks hk1
  have HKV := Lib.hid hKV
  clear hKV
  obtain ⟨ec, hec⟩ : ∃ ec, ec = nameE l := ⟨_, rfl⟩
  rw [← hec] at hnm
  rw [hne] at hec
  subst hec
  go_upto_region 4 with (first | (go_at_call 29; refine hnm.mono ?_; rintro e w2 ⟨rfl, hb2⟩) | (refine wpList_store_new rfl 71 (.tmp 7) (.tmp 22) rfl 71 _ KV rfl rfl (by rw [info71, hks]) (by rw [hks]; rfl) hk1 ?_) | fail)
  clear hnm o0 o1 o2 o3 o4
  have hba : Below w2.heap.size w2 (w2.alloc (.cells KV 71)) := (Below.refl _ _).alloc (Nat.le_refl _) _
  refine wp_world (fun wz => SX wz B sb lb zb tb lv room used E Z T ∧ Blk wz w.heap.size 35 #[.int .u64 g, .int .u64 n, .int .u8 p, .bool gr, (.slice dA d.length dc)] ∧ Blk wz w2.heap.size 71 KV ∧ Rd wz .u8 (.slice dA d.length dc) d ∧ Below w.heap.size w wz) ⟨(hS.kept hb2).kept hba, (hO.same hb2).same hba, Blk.new w2 71 KV, (hd.below hb2).below hba, (hb.trans (hb2.mono hb.size)).trans (hba.mono (Nat.le_trans hb.size hb2.size))⟩ ?_
  obtain ⟨kb, hkb⟩ : ∃ kb, kb = w2.heap.size := ⟨_, rfl⟩
  have hkw : w.heap.size < kb := by rw [hkb]; exact (hO.same hb2).lt
  rw [← hkb]
  clear hba hS hO hv hd hb hb2 hkb
  rintro w3 ⟨hS, hO, hV, hd, hb⟩
  have hKe : KV = keyC y.1.t y.1.g y.1.n := by rw [HKV.out, keyR, if_pos hne, hyk.1, hyk.2.1, hyk.2.2]
  have hlk := fun W (h : KM Try.prog 71 W lb (E.map ekv)) => h.look_yes law71 (t := 76) Try.underlying76 (key := .agg KV) (v := (ekv y).2) (List.mem_map.2 ⟨y, hy, by rw [hKe]; rfl⟩) true
  simp only [if_true] at hlk
  obtain ⟨yA, yc, hyv⟩ := (hS.dat y hy).form
  have hyv2 : (ekv y).2 = .agg #[.int .u64 y.1.g, .int .u64 y.1.n, .int .u8 y.1.p, .bool false, .slice yA y.1.d.length yc] := by rw [← hyv]; rfl
  rw [hyv2, hyk.2.1, hyk.2.2] at hlk
  clear hyk hKe hyv hyv2
  have c2 : World.cell? w3.drew ⟨sb, 2, none⟩ = some (.map (some lb)) := hS.blk.cell 2
  have hSd : SX w3.drew B sb lb zb tb lv room used E Z T := { hS with blk := hS.blk }
  have r6 : w3.drew.rangeAt kb 0 KV.toList := rows_at (show Blk w3.drew kb 71 KV from hV)
  have HKP : Hid (∀ W, Below w3.heap.size w3 W → World.cell? W.drew ⟨sb, 2, none⟩ = some (.map (some lb)) ∧ W.drew.rangeAt kb 0 KV.toList ∧ KM Try.prog 71 W.drew lb (E.map ekv)) := Lib.hid (fun W hW => by
    have h1 := hS.kept hW
    have h2 := hV.same hW
    exact ⟨h1.blk.cell 2, rows_at h2, h1.kl⟩)
  have hba : Below w3.heap.size w3 (w3.alloc (.cells #[.int .u64 0, .int .u64 0, .int .u8 0, .bool false, .slice none 0 0] 35)) := (Below.refl _ _).alloc (Nat.le_refl _) _
  have hbb : Below w3.heap.size w3 (w3.alloc (.cells #[.int .u64 g, .int .u64 n, .int .u8 y.1.p, .bool false, .slice yA y.1.d.length yc] 35)) := (Below.refl _ _).alloc (Nat.le_refl _) _
  go_upto_region 6 with fail
  refine wp_region_held_drew (S := fun W => World.cell? W ⟨sb, 2, none⟩ = some (.map (some lb)) ∧ W.rangeAt kb 0 KV.toList ∧ KM Try.prog 71 W lb (E.map ekv)) (by kernel_rfl) (by first | with_reducible exact ⟨c2, r6, hSd.kl⟩ | with_reducible exact HKP.out _ hba | with_reducible exact HKP.out _ hbb) (fun _ => ?_)
  refine wpAnyH_take (i := 0) (oi := ({ dst := some 28, op := Op.move (Operand.tmp 0), type := 25, pos := _, after := #[], guard := none } : Oper)) (v := ?_) rfl (by kernel_rfl) (by kernel_rfl) (by kernel_rfl) (fun _ _ _ h => h) (Or.inl ⟨by rfl, ?_⟩) (by first | with_reducible exact ⟨c2, r6, hSd.kl⟩ | with_reducible exact HKP.out _ hba | with_reducible exact HKP.out _ hbb) ?_
  rotate_left
  · intro w hSw
    try dsimp only at hSw
    go_simp
    try with_reducible rfl
  try simp only [Act.put, List.setIfInBounds_toArray, List.set_cons_zero, List.set_cons_succ]
  refine wpAnyH_take (i := 1) (oi := ({ dst := some 29, op := Op.nilCheck (Operand.tmp 28), type := 0, pos := _, after := #[{ on := 0, ground := Ground.data }], guard := none } : Oper)) (v := ?_) rfl (by kernel_rfl) (by kernel_rfl) (by kernel_rfl) (fun _ _ _ h => h) (Or.inl ⟨by rfl, ?_⟩) (by first | with_reducible exact ⟨c2, r6, hSd.kl⟩ | with_reducible exact HKP.out _ hba | with_reducible exact HKP.out _ hbb) ?_
  rotate_left
  · intro w hSw
    try dsimp only at hSw
    go_simp
    try with_reducible rfl
  try simp only [Act.put, List.setIfInBounds_toArray, List.set_cons_zero, List.set_cons_succ]
  refine wpAnyH_take (i := 2) (oi := ({ dst := some 30, op := Op.fieldAddr 81 (Operand.tmp 29) 2, type := 0, pos := _, after := #[{ on := 1, ground := Ground.data }], guard := none } : Oper)) (v := ?_) rfl (by kernel_rfl) (by kernel_rfl) (by kernel_rfl) (fun _ _ _ h => h) (Or.inl ⟨by rfl, ?_⟩) (by first | with_reducible exact ⟨c2, r6, hSd.kl⟩ | with_reducible exact HKP.out _ hba | with_reducible exact HKP.out _ hbb) ?_
  rotate_left
  · intro w hSw
    try dsimp only at hSw
    go_simp
    try with_reducible rfl
  try simp only [Act.put, List.setIfInBounds_toArray, List.set_cons_zero, List.set_cons_succ]
  refine wpAnyH_take (i := 3) (oi := ({ dst := some 31, op := Op.load 76 (Operand.tmp 30), type := 76, pos := _, after := #[{ on := 2, ground := Ground.data }], guard := none } : Oper)) (v := ?_) rfl (by kernel_rfl) (by kernel_rfl) (by kernel_rfl) (fun _ _ _ h => h) (Or.inl ⟨by rfl, ?_⟩) (by first | with_reducible exact ⟨c2, r6, hSd.kl⟩ | with_reducible exact HKP.out _ hba | with_reducible exact HKP.out _ hbb) ?_
  rotate_left
  · intro w hSw
    try dsimp only at hSw
    go_simp
    try with_reducible rfl
  try simp only [Act.put, List.setIfInBounds_toArray, List.set_cons_zero, List.set_cons_succ]
  refine wpAnyH_take (i := 4) (oi := ({ dst := some 32, op := Op.load 71 (Operand.tmp 7), type := 71, pos := _, after := #[], guard := none } : Oper)) (v := (.agg KV.toList.toArray)) rfl (by kernel_rfl) (by kernel_rfl) (by kernel_rfl) (fun _ _ _ h => h) (yieldsIf_load_mid (by rfl) 71 (.tmp 7) rfl kb 0 rfl KV.toList _ (fun _ h => h.2.1) Try.underlying71 rfl (by rw [info71, Array.length_toList, hks])) (by first | with_reducible exact ⟨c2, r6, hSd.kl⟩ | with_reducible exact HKP.out _ hba | with_reducible exact HKP.out _ hbb) ?_
  try simp only [Act.put, List.setIfInBounds_toArray, List.set_cons_zero, List.set_cons_succ]
  refine wpAnyH_take (i := 5) (oi := ({ dst := some 33, op := Op.lookup 76 (Operand.tmp 31) (Operand.tmp 32) true, type := 41, pos := _, after := #[{ on := 3, ground := Ground.data }, { on := 4, ground := Ground.data }], guard := none } : Oper)) (v := (.tuple #[.agg #[.int .u64 g, .int .u64 n, .int .u8 y.1.p, .bool false, .slice yA y.1.d.length yc], .bool true])) rfl (by kernel_rfl) (by kernel_rfl) (by kernel_rfl) (fun _ _ _ h => h) (yieldsIf_look (by rfl) 76 (.tmp 31) (.tmp 32) true rfl (.map (some lb)) (.agg KV) rfl rfl _ (fun W h => hlk W h.2.2)) (by first | with_reducible exact ⟨c2, r6, hSd.kl⟩ | with_reducible exact HKP.out _ hba | with_reducible exact HKP.out _ hbb) ?_
  try simp only [Act.put, List.setIfInBounds_toArray, List.set_cons_zero, List.set_cons_succ]
  refine wpAnyH_take (i := 6) (oi := ({ dst := some 27, op := Op.move (Operand.tmp 33), type := 41, pos := _, after := #[{ on := 5, ground := Ground.data }], guard := none } : Oper)) (v := ?_) rfl (by kernel_rfl) (by kernel_rfl) (by kernel_rfl) (fun _ _ _ h => h) (Or.inl ⟨by rfl, ?_⟩) (by first | with_reducible exact ⟨c2, r6, hSd.kl⟩ | with_reducible exact HKP.out _ hba | with_reducible exact HKP.out _ hbb) ?_
  rotate_left
  · intro w hSw
    try dsimp only at hSw
    go_simp
    try with_reducible rfl
  try simp only [Act.put, List.setIfInBounds_toArray, List.set_cons_zero, List.set_cons_succ]
  refine wpAnyH_take (i := 7) (oi := ({ dst := some 34, op := Op.extract (Operand.tmp 27) 0, type := 35, pos := _, after := #[{ on := 6, ground := Ground.data }], guard := none } : Oper)) (v := ?_) rfl (by kernel_rfl) (by kernel_rfl) (by kernel_rfl) (fun _ _ _ h => h) (Or.inl ⟨by rfl, ?_⟩) (by first | with_reducible exact ⟨c2, r6, hSd.kl⟩ | with_reducible exact HKP.out _ hba | with_reducible exact HKP.out _ hbb) ?_
  rotate_left
  · intro w hSw
    try dsimp only at hSw
    go_simp
    try with_reducible rfl
  try simp only [Act.put, List.setIfInBounds_toArray, List.set_cons_zero, List.set_cons_succ]
  refine wpAnyH_take (i := 8) (oi := ({ dst := some 35, op := Op.extract (Operand.tmp 27) 1, type := 4, pos := _, after := #[{ on := 6, ground := Ground.data }, { on := 10, ground := Ground.gcOnly Departure.lateStores }], guard := none } : Oper)) (v := ?_) rfl (by kernel_rfl) (by kernel_rfl) (by kernel_rfl) (fun _ _ _ h => h) (Or.inl ⟨by rfl, ?_⟩) (by first | with_reducible exact ⟨c2, r6, hSd.kl⟩ | with_reducible exact HKP.out _ hba | with_reducible exact HKP.out _ hbb) ?_
  rotate_left
  · intro w hSw
    try dsimp only at hSw
    go_simp
    try with_reducible rfl
  try simp only [Act.put, List.setIfInBounds_toArray, List.set_cons_zero, List.set_cons_succ]
  refine wpAnyH_ready (rs := [9]) (by kernel_rfl) (by simp) ?_
  refine AllReadyH.cons (o := ({ dst := some 9, op := Op.alloc 35, type := 0, pos := _, after := #[], guard := none } : Oper)) rfl (fun K hK => ?_) AllReadyH.nil
  go_simp
  refine hK.out _ _ (by first | with_reducible exact ⟨c2, r6, hSd.kl⟩ | with_reducible exact HKP.out _ hba | with_reducible exact HKP.out _ hbb) (fun _ => ?_)
  clear hK K
  try simp only [Act.put, List.setIfInBounds_toArray, List.set_cons_zero, List.set_cons_succ]
  refine wpAnyH_ready (rs := [10]) (by kernel_rfl) (by simp) ?_
  refine AllReadyH.cons (o := ({ dst := none, op := Op.store 35 (Operand.tmp 9) (Operand.tmp 34), type := 0, pos := _, after := #[{ on := 9, ground := Ground.data }, { on := 7, ground := Ground.data }, { on := 0, ground := Ground.phase }, { on := 1, ground := Ground.phase }, { on := 2, ground := Ground.phase }, { on := 3, ground := Ground.phase }, { on := 4, ground := Ground.phase }, { on := 5, ground := Ground.phase }, { on := 6, ground := Ground.phase }, { on := 7, ground := Ground.phase }, { on := 8, ground := Ground.textOnly Departure.lateStores }, { on := 9, ground := Ground.phase }], guard := none } : Oper)) rfl (fun K hK => ?_) AllReadyH.nil
  go_simp
  refine hK.out _ _ (by first | with_reducible exact ⟨c2, r6, hSd.kl⟩ | with_reducible exact HKP.out _ hba | with_reducible exact HKP.out _ hbb) (fun _ => ?_)
  clear hK K
  try simp only [Act.put, List.setIfInBounds_toArray, List.set_cons_zero, List.set_cons_succ]
  refine wpAnyH_take (i := 11) (oi := ({ dst := some 10, op := Op.assign (Operand.tmp 35), type := 4, pos := _, after := #[{ on := 8, ground := Ground.data }, { on := 10, ground := Ground.chain }, { on := 0, ground := Ground.phase }, { on := 1, ground := Ground.phase }, { on := 2, ground := Ground.phase }, { on := 3, ground := Ground.phase }, { on := 4, ground := Ground.phase }, { on := 5, ground := Ground.phase }, { on := 6, ground := Ground.phase }, { on := 7, ground := Ground.phase }, { on := 8, ground := Ground.phase }, { on := 9, ground := Ground.phase }, { on := 10, ground := Ground.phase }], guard := none } : Oper)) (v := ?_) rfl (by kernel_rfl) (by kernel_rfl) (by kernel_rfl) (fun _ _ _ h => h) (Or.inl ⟨by rfl, ?_⟩) (by first | with_reducible exact ⟨c2, r6, hSd.kl⟩ | with_reducible exact HKP.out _ hba | with_reducible exact HKP.out _ hbb) ?_
  rotate_left
  · intro w hSw
    try dsimp only at hSw
    go_simp
    try with_reducible rfl
  try simp only [Act.put, List.setIfInBounds_toArray, List.set_cons_zero, List.set_cons_succ]
  refine wpAnyH_done (by kernel_rfl) ?_ _
  go_upto_region 7 with fail
  have hBb : Below w.heap.size w (w3.alloc (.cells #[.int .u64 g, .int .u64 n, .int .u8 y.1.p, .bool false, .slice yA y.1.d.length yc] 35)) := hb.trans (hbb.mono hb.size)
  have hSb := hS.kept hbb
  have hOb := hO.same hbb
  have hVb := hV.same hbb
  have hdb := hd.below hbb
  refine wp_world (fun wz => SX wz B sb lb zb tb lv room used E Z T ∧ Blk wz w.heap.size 35 #[.int .u64 g, .int .u64 n, .int .u8 p, .bool gr, (.slice dA d.length dc)] ∧ Blk wz kb 71 KV ∧ Rd wz .u8 (.slice dA d.length dc) d ∧ Below w.heap.size w wz) ⟨{ hSb with blk := hSb.blk }, hOb, hVb, hdb, below_drewN hBb 1⟩ ?_
  clear hSd hSb hOb hVb hdb hBb hba hbb c2 r6 HKP hS hO hV hd hb
  rintro w4 ⟨hS, hO, hV, hd, hb⟩
  go_wp2_with fail
  go_ret
  exact ⟨rfl, hS, hb⟩

end Go.Proofs.Ytiaabbflchdcbaa
