/-
  Put: the object is too long. No condition.
-/
import Derived.Test.YtiaabbflchdcbaaSput
namespace Go.Proofs.Ytiaabbflchdcbaa
open Go.RowKit
set_option linter.unusedVariables false
set_option linter.unusedSimpArgs false

set_option maxHeartbeats 4000000 in
set_option maxRecDepth 100000 in
theorem put_long (B sb lb zb tb : Nat) (lv v : Value) (room used g n p : Int) (gr : Bool) (dA : Option Addr) (dc : Nat) (l d : List Int) (E : List (En × Value)) (Z : List (Lot × Int)) (T : List (List Int × Int × Int)) (w : World) (hS : SX w B sb lb zb tb lv room used E Z T) (hv : Rd w .u8 v l) (hk : BytesOk l) (hll : l.length ≤ 1000000) (hd : Rd w .u8 (.slice dA d.length dc) d) (hdk : BytesOk d) (hdl : d.length ≤ 1000000) (hg : U64 g) (hn : U64 n) (hne : nameE l = 0) (hno : ∀ y ∈ E, ¬(y.1.t = padT l ∧ y.1.g = g ∧ y.1.n = n)) (hz0 : 0 ≤ zget Z (padT l, g) ∧ zget Z (padT l, g) ≤ 1048576) (hlong : room < zget Z (padT l, g) + (d.length + 16)) :
    Calls Try.prog 12 #[.pointer (some ⟨sb, 0, none⟩), v, .agg #[.int .u64 g, .int .u64 n, .int .u8 p, .bool gr, (.slice dA d.length dc)]] w fun e w' => e = .returned (.int .i64 3) ∧ SX w' B sb lb zb tb lv room used E Z T ∧ Below w.heap.size w w' := by
  have hO0 := Blk.new w 35 #[.int .u64 g, .int .u64 n, .int .u8 p, .bool gr, (.slice dA d.length dc)]
  have hb0 : Below w.heap.size w (w.alloc (.cells #[.int .u64 g, .int .u64 n, .int .u8 p, .bool gr, (.slice dA d.length dc)] 35)) := (Below.refl _ _).alloc (Nat.le_refl _) _
  have hS0 := hS.kept hb0
  have hv0 := hv.below hb0
  have hd0 := hd.below hb0
  obtain ⟨vA, vc, rfl⟩ := hv.form
  go_enter Try.func12, Try.ntmps12
  go_upto_region 1 with fail
  refine wp_world (fun wz => SX wz B sb lb zb tb lv room used E Z T ∧ Blk wz w.heap.size 35 #[.int .u64 g, .int .u64 n, .int .u8 p, .bool gr, (.slice dA d.length dc)] ∧ Rd wz .u8 (.slice vA l.length vc) l ∧ Rd wz .u8 (.slice dA d.length dc) d ∧ Below w.heap.size w wz) ⟨hS0, hO0, hv0, hd0, hb0⟩ ?_
  clear hS0 hO0 hv0 hd0 hb0 hS hv hd
  rintro w1 ⟨hS, hO, hv, hd, hb⟩
  have o0 : World.cell? w1 ⟨w.heap.size, 0, none⟩ = some ((.int .u64 g)) := hO.cell 0
  have o1 : World.cell? w1 ⟨w.heap.size, 1, none⟩ = some ((.int .u64 n)) := hO.cell 1
  have o2 : World.cell? w1 ⟨w.heap.size, 2, none⟩ = some ((.int .u8 p)) := hO.cell 2
  have o3 : World.cell? w1 ⟨w.heap.size, 3, none⟩ = some ((.bool gr)) := hO.cell 3
  have o4 : World.cell? w1 ⟨w.heap.size, 4, none⟩ = some ((.slice dA d.length dc)) := hO.cell 4
  have hnm := name_any (.slice vA l.length vc) l g n w1 hv hk (by omega)
  have hks := keyR_size (g := g) (n := n) hk
  obtain ⟨KV, hKV⟩ : ∃ KV, KV = keyR l g n := ⟨_, rfl⟩
  have hk1 := keyR_one l g n
  rw [← hKV] at hnm hks hk1
  have HKV := Lib.hid hKV
  clear hKV
  obtain ⟨ec, hec⟩ : ∃ ec, ec = nameE l := ⟨_, rfl⟩
  rw [← hec] at hnm
  rw [hne] at hec
  subst hec
  go_upto_region 4 with (first | (go_at_call 29; refine hnm.mono ?_; rintro e w2 ⟨rfl, hb2⟩) | (refine wpList_store_new rfl 71 (.tmp 7) (.tmp 22) rfl 71 _ KV rfl rfl (by rw [info71, hks]) (by rw [hks]; rfl) hk1 ?_) | fail)
  clear hnm o0 o1 o2 o3 o4
  have hba : Below w2.heap.size w2 (w2.alloc (.cells KV 71)) := (Below.refl _ _).alloc (Nat.le_refl _) _
  refine wp_world (fun wz => SX wz B sb lb zb tb lv room used E Z T ∧ Blk wz w.heap.size 35 #[.int .u64 g, .int .u64 n, .int .u8 p, .bool gr, (.slice dA d.length dc)] ∧ Blk wz w2.heap.size 71 KV ∧ Rd wz .u8 (.slice dA d.length dc) d ∧ Below w.heap.size w wz) ⟨(hS.kept hb2).kept hba, (hO.same hb2).same hba, Blk.new w2 71 KV, (hd.below hb2).below hba, (hb.trans (hb2.mono hb.size)).trans (hba.mono (Nat.le_trans hb.size hb2.size))⟩ ?_
  obtain ⟨kb, hkb⟩ : ∃ kb, kb = w2.heap.size := ⟨_, rfl⟩
  have hkw : w.heap.size < kb := by rw [hkb]; exact (hO.same hb2).lt
  rw [← hkb]
  clear hba hS hO hv hd hb hb2 hkb
  rintro w3 ⟨hS, hO, hV, hd, hb⟩
  have hpt := padT32 hne hk
  have hKe : KV = keyC (padT l) g n := by rw [HKV.out, keyR, if_pos hne]
  have hko : KeyOk Try.prog 71 (.agg KV) := by rw [hKe]; exact ok_key hpt hg hn
  have hlk := fun W (h : KM Try.prog 71 W lb (E.map ekv)) => h.look_no law71 (t := 76) Try.underlying76 (obj_zero W) hko (fun y hy e => by
    obtain ⟨z, hz, rfl⟩ := List.mem_map.1 hy
    have hzk := hno z hz
    have h3 := key_inj (hS.ok z hz).t hpt (by rw [← hKe]; injection e)
    exact hzk h3) true
  simp only [if_true] at hlk
  have c2 : World.cell? w3.drew ⟨sb, 2, none⟩ = some (.map (some lb)) := hS.blk.cell 2
  have hSd : SX w3.drew B sb lb zb tb lv room used E Z T := { hS with blk := hS.blk }
  have r6 : w3.drew.rangeAt kb 0 KV.toList := rows_at (show Blk w3.drew kb 71 KV from hV)
  have HKP : Hid (∀ W, Below w3.heap.size w3 W → World.cell? W.drew ⟨sb, 2, none⟩ = some (.map (some lb)) ∧ W.drew.rangeAt kb 0 KV.toList ∧ KM Try.prog 71 W.drew lb (E.map ekv)) := Lib.hid (fun W hW => by
    have h1 := hS.kept hW
    have h2 := hV.same hW
    exact ⟨h1.blk.cell 2, rows_at h2, h1.kl⟩)
  have hba : Below w3.heap.size w3 (w3.alloc (.cells #[.int .u64 0, .int .u64 0, .int .u8 0, .bool false, .slice none 0 0] 35)) := (Below.refl _ _).alloc (Nat.le_refl _) _
  have hbb : Below w3.heap.size w3 (w3.alloc (.cells #[.int .u64 0, .int .u64 0, .int .u8 0, .bool false, .slice none 0 0] 35)) := (Below.refl _ _).alloc (Nat.le_refl _) _
  go_upto_region 6 with fail
  refine wp_region_held_drew (S := fun W => World.cell? W ⟨sb, 2, none⟩ = some (.map (some lb)) ∧ W.rangeAt kb 0 KV.toList ∧ KM Try.prog 71 W lb (E.map ekv)) (by kernel_rfl) (by first | with_reducible exact ⟨c2, r6, hSd.kl⟩ | with_reducible exact HKP.out _ hba | with_reducible exact HKP.out _ hbb) (fun _ => ?_)
  refine wpAnyH_take (i := 0) (oi := ({ dst := some 28, op := Op.move (Operand.tmp 0), type := 25, pos := _, after := #[], guard := none } : Oper)) (v := ?_) rfl (by kernel_rfl) (by kernel_rfl) (by kernel_rfl) (fun _ _ _ h => h) (Or.inl ⟨by rfl, ?_⟩) (by first | with_reducible exact ⟨c2, r6, hSd.kl⟩ | with_reducible exact HKP.out _ hba | with_reducible exact HKP.out _ hbb) ?_
  rotate_left
  · intro w hSw
    try dsimp only at hSw
    go_simp
    try with_reducible rfl
  try simp only [Act.put, List.setIfInBounds_toArray, List.set_cons_zero, List.set_cons_succ]
  refine wpAnyH_take (i := 1) (oi := ({ dst := some 29, op := Op.nilCheck (Operand.tmp 28), type := 0, pos := _, after := #[{ on := 0, ground := Ground.data }], guard := none } : Oper)) (v := ?_) rfl (by kernel_rfl) (by kernel_rfl) (by kernel_rfl) (fun _ _ _ h => h) (Or.inl ⟨by rfl, ?_⟩) (by first | with_reducible exact ⟨c2, r6, hSd.kl⟩ | with_reducible exact HKP.out _ hba | with_reducible exact HKP.out _ hbb) ?_
  rotate_left
  · intro w hSw
    try dsimp only at hSw
    go_simp
    try with_reducible rfl
  try simp only [Act.put, List.setIfInBounds_toArray, List.set_cons_zero, List.set_cons_succ]
  refine wpAnyH_take (i := 2) (oi := ({ dst := some 30, op := Op.fieldAddr 81 (Operand.tmp 29) 2, type := 0, pos := _, after := #[{ on := 1, ground := Ground.data }], guard := none } : Oper)) (v := ?_) rfl (by kernel_rfl) (by kernel_rfl) (by kernel_rfl) (fun _ _ _ h => h) (Or.inl ⟨by rfl, ?_⟩) (by first | with_reducible exact ⟨c2, r6, hSd.kl⟩ | with_reducible exact HKP.out _ hba | with_reducible exact HKP.out _ hbb) ?_
  rotate_left
  · intro w hSw
    try dsimp only at hSw
    go_simp
    try with_reducible rfl
  try simp only [Act.put, List.setIfInBounds_toArray, List.set_cons_zero, List.set_cons_succ]
  refine wpAnyH_take (i := 3) (oi := ({ dst := some 31, op := Op.load 76 (Operand.tmp 30), type := 76, pos := _, after := #[{ on := 2, ground := Ground.data }], guard := none } : Oper)) (v := ?_) rfl (by kernel_rfl) (by kernel_rfl) (by kernel_rfl) (fun _ _ _ h => h) (Or.inl ⟨by rfl, ?_⟩) (by first | with_reducible exact ⟨c2, r6, hSd.kl⟩ | with_reducible exact HKP.out _ hba | with_reducible exact HKP.out _ hbb) ?_
  rotate_left
  · intro w hSw
    try dsimp only at hSw
    go_simp
    try with_reducible rfl
  try simp only [Act.put, List.setIfInBounds_toArray, List.set_cons_zero, List.set_cons_succ]
  refine wpAnyH_take (i := 4) (oi := ({ dst := some 32, op := Op.load 71 (Operand.tmp 7), type := 71, pos := _, after := #[], guard := none } : Oper)) (v := (.agg KV.toList.toArray)) rfl (by kernel_rfl) (by kernel_rfl) (by kernel_rfl) (fun _ _ _ h => h) (yieldsIf_load_mid (by rfl) 71 (.tmp 7) rfl kb 0 rfl KV.toList _ (fun _ h => h.2.1) Try.underlying71 rfl (by rw [info71, Array.length_toList, hks])) (by first | with_reducible exact ⟨c2, r6, hSd.kl⟩ | with_reducible exact HKP.out _ hba | with_reducible exact HKP.out _ hbb) ?_
  try simp only [Act.put, List.setIfInBounds_toArray, List.set_cons_zero, List.set_cons_succ]
  refine wpAnyH_take (i := 5) (oi := ({ dst := some 33, op := Op.lookup 76 (Operand.tmp 31) (Operand.tmp 32) true, type := 41, pos := _, after := #[{ on := 3, ground := Ground.data }, { on := 4, ground := Ground.data }], guard := none } : Oper)) (v := (.tuple #[.agg #[.int .u64 0, .int .u64 0, .int .u8 0, .bool false, .slice none 0 0], .bool false])) rfl (by kernel_rfl) (by kernel_rfl) (by kernel_rfl) (fun _ _ _ h => h) (yieldsIf_look (by rfl) 76 (.tmp 31) (.tmp 32) true rfl (.map (some lb)) (.agg KV) rfl rfl _ (fun W h => hlk W h.2.2)) (by first | with_reducible exact ⟨c2, r6, hSd.kl⟩ | with_reducible exact HKP.out _ hba | with_reducible exact HKP.out _ hbb) ?_
  try simp only [Act.put, List.setIfInBounds_toArray, List.set_cons_zero, List.set_cons_succ]
  refine wpAnyH_take (i := 6) (oi := ({ dst := some 27, op := Op.move (Operand.tmp 33), type := 41, pos := _, after := #[{ on := 5, ground := Ground.data }], guard := none } : Oper)) (v := ?_) rfl (by kernel_rfl) (by kernel_rfl) (by kernel_rfl) (fun _ _ _ h => h) (Or.inl ⟨by rfl, ?_⟩) (by first | with_reducible exact ⟨c2, r6, hSd.kl⟩ | with_reducible exact HKP.out _ hba | with_reducible exact HKP.out _ hbb) ?_
  rotate_left
  · intro w hSw
    try dsimp only at hSw
    go_simp
    try with_reducible rfl
  try simp only [Act.put, List.setIfInBounds_toArray, List.set_cons_zero, List.set_cons_succ]
  refine wpAnyH_take (i := 7) (oi := ({ dst := some 34, op := Op.extract (Operand.tmp 27) 0, type := 35, pos := _, after := #[{ on := 6, ground := Ground.data }], guard := none } : Oper)) (v := ?_) rfl (by kernel_rfl) (by kernel_rfl) (by kernel_rfl) (fun _ _ _ h => h) (Or.inl ⟨by rfl, ?_⟩) (by first | with_reducible exact ⟨c2, r6, hSd.kl⟩ | with_reducible exact HKP.out _ hba | with_reducible exact HKP.out _ hbb) ?_
  rotate_left
  · intro w hSw
    try dsimp only at hSw
    go_simp
    try with_reducible rfl
  try simp only [Act.put, List.setIfInBounds_toArray, List.set_cons_zero, List.set_cons_succ]
  refine wpAnyH_take (i := 8) (oi := ({ dst := some 35, op := Op.extract (Operand.tmp 27) 1, type := 4, pos := _, after := #[{ on := 6, ground := Ground.data }, { on := 10, ground := Ground.gcOnly Departure.lateStores }], guard := none } : Oper)) (v := ?_) rfl (by kernel_rfl) (by kernel_rfl) (by kernel_rfl) (fun _ _ _ h => h) (Or.inl ⟨by rfl, ?_⟩) (by first | with_reducible exact ⟨c2, r6, hSd.kl⟩ | with_reducible exact HKP.out _ hba | with_reducible exact HKP.out _ hbb) ?_
  rotate_left
  · intro w hSw
    try dsimp only at hSw
    go_simp
    try with_reducible rfl
  try simp only [Act.put, List.setIfInBounds_toArray, List.set_cons_zero, List.set_cons_succ]
  refine wpAnyH_ready (rs := [9]) (by kernel_rfl) (by simp) ?_
  refine AllReadyH.cons (o := ({ dst := some 9, op := Op.alloc 35, type := 0, pos := _, after := #[], guard := none } : Oper)) rfl (fun K hK => ?_) AllReadyH.nil
  go_simp
  refine hK.out _ _ (by first | with_reducible exact ⟨c2, r6, hSd.kl⟩ | with_reducible exact HKP.out _ hba | with_reducible exact HKP.out _ hbb) (fun _ => ?_)
  clear hK K
  try simp only [Act.put, List.setIfInBounds_toArray, List.set_cons_zero, List.set_cons_succ]
  refine wpAnyH_ready (rs := [10]) (by kernel_rfl) (by simp) ?_
  refine AllReadyH.cons (o := ({ dst := none, op := Op.store 35 (Operand.tmp 9) (Operand.tmp 34), type := 0, pos := _, after := #[{ on := 9, ground := Ground.data }, { on := 7, ground := Ground.data }, { on := 0, ground := Ground.phase }, { on := 1, ground := Ground.phase }, { on := 2, ground := Ground.phase }, { on := 3, ground := Ground.phase }, { on := 4, ground := Ground.phase }, { on := 5, ground := Ground.phase }, { on := 6, ground := Ground.phase }, { on := 7, ground := Ground.phase }, { on := 8, ground := Ground.textOnly Departure.lateStores }, { on := 9, ground := Ground.phase }], guard := none } : Oper)) rfl (fun K hK => ?_) AllReadyH.nil
  go_simp
  refine hK.out _ _ (by first | with_reducible exact ⟨c2, r6, hSd.kl⟩ | with_reducible exact HKP.out _ hba | with_reducible exact HKP.out _ hbb) (fun _ => ?_)
  clear hK K
  try simp only [Act.put, List.setIfInBounds_toArray, List.set_cons_zero, List.set_cons_succ]
  refine wpAnyH_take (i := 11) (oi := ({ dst := some 10, op := Op.assign (Operand.tmp 35), type := 4, pos := _, after := #[{ on := 8, ground := Ground.data }, { on := 10, ground := Ground.chain }, { on := 0, ground := Ground.phase }, { on := 1, ground := Ground.phase }, { on := 2, ground := Ground.phase }, { on := 3, ground := Ground.phase }, { on := 4, ground := Ground.phase }, { on := 5, ground := Ground.phase }, { on := 6, ground := Ground.phase }, { on := 7, ground := Ground.phase }, { on := 8, ground := Ground.phase }, { on := 9, ground := Ground.phase }, { on := 10, ground := Ground.phase }], guard := none } : Oper)) (v := ?_) rfl (by kernel_rfl) (by kernel_rfl) (by kernel_rfl) (fun _ _ _ h => h) (Or.inl ⟨by rfl, ?_⟩) (by first | with_reducible exact ⟨c2, r6, hSd.kl⟩ | with_reducible exact HKP.out _ hba | with_reducible exact HKP.out _ hbb) ?_
  rotate_left
  · intro w hSw
    try dsimp only at hSw
    go_simp
    try with_reducible rfl
  try simp only [Act.put, List.setIfInBounds_toArray, List.set_cons_zero, List.set_cons_succ]
  refine wpAnyH_done (by kernel_rfl) ?_ _
  go_upto_region 7 with fail
  have hBb : Below w.heap.size w (w3.alloc (.cells #[.int .u64 0, .int .u64 0, .int .u8 0, .bool false, .slice none 0 0] 35)) := hb.trans (hbb.mono hb.size)
  have hSb := hS.kept hbb
  have hOb := hO.same hbb
  have hVb := hV.same hbb
  have hdb := hd.below hbb
  refine wp_world (fun wz => SX wz B sb lb zb tb lv room used E Z T ∧ Blk wz w.heap.size 35 #[.int .u64 g, .int .u64 n, .int .u8 p, .bool gr, (.slice dA d.length dc)] ∧ Blk wz kb 71 KV ∧ Rd wz .u8 (.slice dA d.length dc) d ∧ Below w.heap.size w wz) ⟨{ hSb with blk := hSb.blk }, hOb, hVb, hdb, below_drewN hBb 1⟩ ?_
  clear hSd hSb hOb hVb hdb hBb hba hbb c2 r6 HKP hS hO hV hd hb
  rintro w4 ⟨hS, hO, hV, hd, hb⟩
  subst hKe
  clear hlk hko HKV
  have hpl := hpt.1
  have hrg := key_range hV
  have o0 : World.cell? w4 ⟨w.heap.size, 0, none⟩ = some (.int .u64 g) := hO.cell 0
  have hba : Below w4.heap.size w4 (w4.alloc (.cells (lotC (padT l) g) 84)) := (Below.refl _ _).alloc (Nat.le_refl _) _
  have hls := lot_size (g := g) hpt
  go_upto_region 10 with (first | (refine wpList_load_mid rfl 69 (.tmp 37) rfl kb 0 rfl ((padT l).map (Value.int .u8)) _ hrg Try.underlying69 rfl (by rw [info69, List.length_map, hpl]) ?_; show wpList _ _ _ _ (Act.put _ _ (.agg (trkC (padT l)))) _) | (refine wpList_build2 rfl 84 0 1 (.tmp 38) (.tmp 41) rfl (.agg (trkC (padT l))) (.int .u64 g) rfl rfl (lotC (padT l) g) (built84 (padT l) g hpl) ?_) | (refine wpList_store_new rfl 84 (.tmp 11) (.tmp 42) rfl 84 _ (lotC (padT l) g) rfl rfl (by rw [info84, hls]) (by rw [hls]; rfl) (lot_one _ _) ?_) | fail)
  refine wp_world (fun wz => SX wz B sb lb zb tb lv room used E Z T ∧ Blk wz w.heap.size 35 #[.int .u64 g, .int .u64 n, .int .u8 p, .bool gr, (.slice dA d.length dc)] ∧ Blk wz kb 71 (keyC (padT l) g n) ∧ Blk wz w4.heap.size 84 (lotC (padT l) g) ∧ Rd wz .u8 (.slice dA d.length dc) d ∧ Below w.heap.size w wz) ⟨hS.kept hba, hO.same hba, hV.same hba, Blk.new w4 84 _, hd.below hba, hb.trans (hba.mono hb.size)⟩ ?_
  obtain ⟨xb, hxb⟩ : ∃ xb, xb = w4.heap.size := ⟨_, rfl⟩
  have hxw : w.heap.size < xb ∧ kb < xb := by rw [hxb]; exact ⟨hO.lt, hV.lt⟩
  rw [← hxb]
  clear hba hrg hS hO hV hd hb hxb o0
  rintro w5 ⟨hS, hO, hV, hX, hd, hb⟩
  have hSd : SX w5.drew B sb lb zb tb lv room used E Z T := { hS with blk := hS.blk }
  have hOd : Blk w5.drew w.heap.size 35 #[.int .u64 g, .int .u64 n, .int .u8 p, .bool gr, (.slice dA d.length dc)] := hO
  have hXd : Blk w5.drew xb 84 (lotC (padT l) g) := hX
  have hzok := hS.zok
  have HK10 : Hid (∀ W, Below w5.drew.heap.size w5.drew W → World.cell? W ⟨sb, 4, none⟩ = some (.map (some zb)) ∧ World.cell? W ⟨sb, 0, none⟩ = some (.int .i64 room) ∧ World.cell? W ⟨w.heap.size, 0, none⟩ = some (.int .u64 g) ∧ World.cell? W ⟨w.heap.size, 1, none⟩ = some (.int .u64 n) ∧ World.cell? W ⟨w.heap.size, 2, none⟩ = some (.int .u8 p) ∧ World.cell? W ⟨w.heap.size, 3, none⟩ = some (.bool gr) ∧ World.cell? W ⟨w.heap.size, 4, none⟩ = some (.slice dA d.length dc) ∧ W.rangeAt xb 0 (lotC (padT l) g).toList ∧ KM Try.prog 84 W zb (Z.map zkv)) := Lib.hid (fun W hW => by
    have h1 := hSd.kept hW
    have h2 := hOd.same hW
    have h3 := hXd.same hW
    exact ⟨h1.blk.cell 4, h1.blk.cell 0, h2.cell 0, h2.cell 1, h2.cell 2, h2.cell 3, h2.cell 4, rows_at h3, h1.kz⟩)
  have hw10 : wrap64 (zget Z (padT l, g) + ((d.length : Int) + 16)) = zget Z (padT l, g) + ((d.length : Int) + 16) := by unfold wrap64; omega
  have hw10b : IntKind.i64.wrap (zget Z (padT l, g) + ((d.length : Int) + 16)) = zget Z (padT l, g) + ((d.length : Int) + 16) := by rw [IntKind.wrap_i64]; omega
  have hl10 : decide (room < zget Z (padT l, g) + ((d.length : Int) + 16)) = true := decide_eq_true hlong
  go_upto_region 10 with fail
  refine wp_region_held_drew (S := fun W => World.cell? W ⟨sb, 4, none⟩ = some (.map (some zb)) ∧ World.cell? W ⟨sb, 0, none⟩ = some (.int .i64 room) ∧ World.cell? W ⟨w.heap.size, 0, none⟩ = some (.int .u64 g) ∧ World.cell? W ⟨w.heap.size, 1, none⟩ = some (.int .u64 n) ∧ World.cell? W ⟨w.heap.size, 2, none⟩ = some (.int .u8 p) ∧ World.cell? W ⟨w.heap.size, 3, none⟩ = some (.bool gr) ∧ World.cell? W ⟨w.heap.size, 4, none⟩ = some (.slice dA d.length dc) ∧ W.rangeAt xb 0 (lotC (padT l) g).toList ∧ KM Try.prog 84 W zb (Z.map zkv)) (by kernel_rfl) (by first | with_reducible exact HK10.out _ (Below.refl _ _) | with_reducible exact HK10.out _ hb6) (fun _ => ?_)
  refine wpAnyH_take (i := 0) (oi := ({ dst := some 43, op := Op.move (Operand.tmp 0), type := 25, pos := _, after := #[], guard := none } : Oper)) (v := ?_) rfl (by kernel_rfl) (by kernel_rfl) (by kernel_rfl) (fun _ _ _ h => h) (Or.inl ⟨by rfl, ?_⟩) (by first | with_reducible exact HK10.out _ (Below.refl _ _) | with_reducible exact HK10.out _ hb6) ?_
  rotate_left
  · intro w hSw
    try dsimp only at hSw
    go_simp
    try with_reducible rfl
  try simp only [Act.put, List.setIfInBounds_toArray, List.set_cons_zero, List.set_cons_succ]
  refine wpAnyH_take (i := 1) (oi := ({ dst := some 44, op := Op.nilCheck (Operand.tmp 43), type := 0, pos := _, after := #[{ on := 0, ground := Ground.data }], guard := none } : Oper)) (v := ?_) rfl (by kernel_rfl) (by kernel_rfl) (by kernel_rfl) (fun _ _ _ h => h) (Or.inl ⟨by rfl, ?_⟩) (by first | with_reducible exact HK10.out _ (Below.refl _ _) | with_reducible exact HK10.out _ hb6) ?_
  rotate_left
  · intro w hSw
    try dsimp only at hSw
    go_simp
    try with_reducible rfl
  try simp only [Act.put, List.setIfInBounds_toArray, List.set_cons_zero, List.set_cons_succ]
  refine wpAnyH_take (i := 2) (oi := ({ dst := some 45, op := Op.fieldAddr 81 (Operand.tmp 44) 4, type := 0, pos := _, after := #[{ on := 1, ground := Ground.data }], guard := none } : Oper)) (v := ?_) rfl (by kernel_rfl) (by kernel_rfl) (by kernel_rfl) (fun _ _ _ h => h) (Or.inl ⟨by rfl, ?_⟩) (by first | with_reducible exact HK10.out _ (Below.refl _ _) | with_reducible exact HK10.out _ hb6) ?_
  rotate_left
  · intro w hSw
    try dsimp only at hSw
    go_simp
    try with_reducible rfl
  try simp only [Act.put, List.setIfInBounds_toArray, List.set_cons_zero, List.set_cons_succ]
  refine wpAnyH_take (i := 3) (oi := ({ dst := some 46, op := Op.load 77 (Operand.tmp 45), type := 77, pos := _, after := #[{ on := 2, ground := Ground.data }], guard := none } : Oper)) (v := ?_) rfl (by kernel_rfl) (by kernel_rfl) (by kernel_rfl) (fun _ _ _ h => h) (Or.inl ⟨by rfl, ?_⟩) (by first | with_reducible exact HK10.out _ (Below.refl _ _) | with_reducible exact HK10.out _ hb6) ?_
  rotate_left
  · intro w hSw
    try dsimp only at hSw
    go_simp
    try with_reducible rfl
  try simp only [Act.put, List.setIfInBounds_toArray, List.set_cons_zero, List.set_cons_succ]
  refine wpAnyH_take (i := 4) (oi := ({ dst := some 47, op := Op.load 84 (Operand.tmp 11), type := 84, pos := _, after := #[], guard := none } : Oper)) (v := (.agg (lotC (padT l) g).toList.toArray)) rfl (by kernel_rfl) (by kernel_rfl) (by kernel_rfl) (fun _ _ _ h => h) (yieldsIf_load_mid (by rfl) 84 (.tmp 11) rfl xb 0 rfl (lotC (padT l) g).toList _ (fun _ h => h.2.2.2.2.2.2.2.1) Try.underlying84 rfl (by rw [info84, Array.length_toList, hls])) (by first | with_reducible exact HK10.out _ (Below.refl _ _) | with_reducible exact HK10.out _ hb6) ?_
  try simp only [Act.put, List.setIfInBounds_toArray, List.set_cons_zero, List.set_cons_succ]
  refine wpAnyH_take (i := 5) (oi := ({ dst := some 48, op := Op.lookup 77 (Operand.tmp 46) (Operand.tmp 47) false, type := 3, pos := _, after := #[{ on := 3, ground := Ground.data }, { on := 4, ground := Ground.data }], guard := none } : Oper)) (v := (.int .i64 (zget Z (padT l, g)))) rfl (by kernel_rfl) (by kernel_rfl) (by kernel_rfl) (fun _ _ _ h => h) (yieldsIf_look (by rfl) 77 (.tmp 46) (.tmp 47) false rfl (.map (some zb)) (.agg (lotC (padT l) g)) rfl rfl _ (fun W h => KM.zlook (x := (padT l, g)) h.2.2.2.2.2.2.2.2 hzok ⟨hpt, hg⟩)) (by first | with_reducible exact HK10.out _ (Below.refl _ _) | with_reducible exact HK10.out _ hb6) ?_
  try simp only [Act.put, List.setIfInBounds_toArray, List.set_cons_zero, List.set_cons_succ]
  refine wpAnyH_take (i := 6) (oi := ({ dst := some 49, op := Op.load 35 (Operand.tmp 5), type := 35, pos := _, after := #[], guard := none } : Oper)) (v := ?_) rfl (by kernel_rfl) (by kernel_rfl) (by kernel_rfl) (fun _ _ _ h => h) (Or.inl ⟨by rfl, ?_⟩) (by first | with_reducible exact HK10.out _ (Below.refl _ _) | with_reducible exact HK10.out _ hb6) ?_
  rotate_left
  · intro w hSw
    try dsimp only at hSw
    go_simp
    try with_reducible rfl
  try simp only [Act.put, List.setIfInBounds_toArray, List.set_cons_zero, List.set_cons_succ]
  refine wpAnyH_take (i := 9) (oi := ({ dst := some 52, op := Op.move (Operand.tmp 0), type := 25, pos := _, after := #[], guard := none } : Oper)) (v := ?_) rfl (by kernel_rfl) (by kernel_rfl) (by kernel_rfl) (fun _ _ _ h => h) (Or.inl ⟨by rfl, ?_⟩) (by first | with_reducible exact HK10.out _ (Below.refl _ _) | with_reducible exact HK10.out _ hb6) ?_
  rotate_left
  · intro w hSw
    try dsimp only at hSw
    go_simp
    try with_reducible rfl
  try simp only [Act.put, List.setIfInBounds_toArray, List.set_cons_zero, List.set_cons_succ]
  refine wpAnyH_take (i := 10) (oi := ({ dst := some 53, op := Op.nilCheck (Operand.tmp 52), type := 0, pos := _, after := #[{ on := 9, ground := Ground.data }], guard := none } : Oper)) (v := ?_) rfl (by kernel_rfl) (by kernel_rfl) (by kernel_rfl) (fun _ _ _ h => h) (Or.inl ⟨by rfl, ?_⟩) (by first | with_reducible exact HK10.out _ (Below.refl _ _) | with_reducible exact HK10.out _ hb6) ?_
  rotate_left
  · intro w hSw
    try dsimp only at hSw
    go_simp
    try with_reducible rfl
  try simp only [Act.put, List.setIfInBounds_toArray, List.set_cons_zero, List.set_cons_succ]
  refine wpAnyH_take (i := 11) (oi := ({ dst := some 54, op := Op.fieldAddr 81 (Operand.tmp 53) 0, type := 0, pos := _, after := #[{ on := 10, ground := Ground.data }], guard := none } : Oper)) (v := ?_) rfl (by kernel_rfl) (by kernel_rfl) (by kernel_rfl) (fun _ _ _ h => h) (Or.inl ⟨by rfl, ?_⟩) (by first | with_reducible exact HK10.out _ (Below.refl _ _) | with_reducible exact HK10.out _ hb6) ?_
  rotate_left
  · intro w hSw
    try dsimp only at hSw
    go_simp
    try with_reducible rfl
  try simp only [Act.put, List.setIfInBounds_toArray, List.set_cons_zero, List.set_cons_succ]
  refine wpAnyH_take (i := 12) (oi := ({ dst := some 55, op := Op.load 3 (Operand.tmp 54), type := 3, pos := _, after := #[{ on := 11, ground := Ground.data }], guard := none } : Oper)) (v := ?_) rfl (by kernel_rfl) (by kernel_rfl) (by kernel_rfl) (fun _ _ _ h => h) (Or.inl ⟨by rfl, ?_⟩) (by first | with_reducible exact HK10.out _ (Below.refl _ _) | with_reducible exact HK10.out _ hb6) ?_
  rotate_left
  · intro w hSw
    try dsimp only at hSw
    go_simp
    try with_reducible rfl
  try simp only [Act.put, List.setIfInBounds_toArray, List.set_cons_zero, List.set_cons_succ]
  refine wpAnyH_ready (rs := [7]) (by kernel_rfl) (by simp) ?_
  refine AllReadyH.cons (o := ({ dst := some 50, op := Op.call { callee := Callee.value (Operand.func 31), args := #[Operand.tmp 49], argTypes := #[35] }, type := 3, pos := _, after := #[{ on := 6, ground := Ground.data }], guard := none } : Oper)) rfl (fun K hK => ?_) AllReadyH.nil
  go_simp
  go_at_call 31
  (with_reducible refine (cost_any g n p gr dA d.length dc _ (by omega)).mono ?_)
  rintro e w6 ⟨rfl, hb6⟩
  refine hK.out _ _ (by first | with_reducible exact HK10.out _ (Below.refl _ _) | with_reducible exact HK10.out _ hb6) (fun _ => ?_)
  clear hK K
  try simp only [Act.put, List.setIfInBounds_toArray, List.set_cons_zero, List.set_cons_succ]
  refine wpAnyH_take (i := 8) (oi := ({ dst := some 51, op := Op.binOp BinOp.add 3 (Operand.tmp 48) (Operand.tmp 50) 3, type := 3, pos := _, after := #[{ on := 5, ground := Ground.data }, { on := 7, ground := Ground.data }], guard := none } : Oper)) (v := ?_) rfl (by kernel_rfl) (by kernel_rfl) (by kernel_rfl) (fun _ _ _ h => h) (Or.inl ⟨by rfl, ?_⟩) (by first | with_reducible exact HK10.out _ (Below.refl _ _) | with_reducible exact HK10.out _ hb6) ?_
  rotate_left
  · intro w hSw
    try dsimp only at hSw
    go_simp
    try with_reducible rfl
  try simp only [Act.put, List.setIfInBounds_toArray, List.set_cons_zero, List.set_cons_succ]
  refine wpAnyH_take (i := 13) (oi := ({ dst := some 56, op := Op.binOp BinOp.gtr 3 (Operand.tmp 51) (Operand.tmp 55) 3, type := 4, pos := _, after := #[{ on := 8, ground := Ground.data }, { on := 12, ground := Ground.data }], guard := none } : Oper)) (v := ?_) rfl (by kernel_rfl) (by kernel_rfl) (by kernel_rfl) (fun _ _ _ h => h) (Or.inl ⟨by rfl, ?_⟩) (by first | with_reducible exact HK10.out _ (Below.refl _ _) | with_reducible exact HK10.out _ hb6) ?_
  rotate_left
  · intro w hSw
    try dsimp only at hSw
    go_simp
    try with_reducible rfl
  try simp only [Act.put, List.setIfInBounds_toArray, List.set_cons_zero, List.set_cons_succ]
  refine wpAnyH_done (by kernel_rfl) ?_ _
  have hSf := hSd.kept hb6
  have hBf : Below w.heap.size w w6 := Below.trans (show Below w.heap.size w w5.drew from below_drewN hb 1) (hb6.mono hb.size)
  go_wp2_with fail
  go_ret
  exact ⟨rfl, hSf, hBf⟩

end Go.Proofs.Ytiaabbflchdcbaa
