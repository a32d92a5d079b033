/-
  Put: what is put: the groups that go. No condition.
-/
import Derived.Test.YtiaabbflchdcbaaSputb
import Derived.Test.YtiaabbflchdcbaaSlit
import Derived.Test.YtiaabbflchdcbaaSevq
namespace Go.Proofs.Ytiaabbflchdcbaa
open Go.RowKit
set_option linter.unusedVariables false
set_option linter.unusedSimpArgs false

theorem evict_fits {x : Lot} {c room : Int} {k : Nat} {s : St} (h : s.used + c ≤ room) : evict x c room k s = s := by
  cases k with
  | zero => rfl
  | succ k => rw [evict, if_pos h]
theorem evict_step {x : Lot} {c room : Int} {s : St} {z : Lot × Int} (h : ¬ s.used + c ≤ room) (hz : s.Z[vic x s.Z]? = some z) : evict x c room s.Z.length s = evict x c room (drop1 x s).Z.length (drop1 x s) := by
  have hl := (List.getElem?_eq_some_iff.1 hz).1
  obtain ⟨m, hm⟩ : ∃ m, s.Z.length = m + 1 := ⟨s.Z.length - 1, by omega⟩
  have e : (drop1 x s).Z.length = m := by rw [drop1_eq hz]; simp only [List.length_eraseIdx, hl, if_true]; omega
  rw [hm, e, evict, if_neg h]
theorem SX.far {w : World} {B sb lb zb tb : Nat} {lv : Value} {room used : Int} {E : List (En × Value)} {Z : List (Lot × Int)} {T : List (List Int × Int × Int)} (h : SX w B sb lb zb tb lv room used E Z T) (k : Nat) (hk : w.heap.size ≤ k) : ¬ (k = sb ∨ k = lb ∨ k = zb ∨ lv.ownBlock = some k) := by
  have h1 := h.blk.lt
  have h2 : lb < w.heap.size := by obtain ⟨es, c, hb⟩ := h.kl.blk; exact (Array.getElem?_eq_some_iff.1 hb).1
  have h3 : zb < w.heap.size := by obtain ⟨es, c, hb⟩ := h.kz.blk; exact (Array.getElem?_eq_some_iff.1 hb).1
  rintro (e | e | e | e)
  · omega
  · omega
  · omega
  · rcases lr_form h.lr with ⟨rfl, _⟩ | ⟨g', c, rfl, _, h4, _⟩
    · simp [Value.ownBlock] at e
    · simp only [Value.ownBlock, Option.some.injEq] at e; omega
theorem put_ss {sb lb zb tb : Nat} {lv : Value} : ∀ k, (k = sb ∨ k = lb ∨ k = zb ∨ lv.ownBlock = some k) → (k = sb ∨ k = lb ∨ k = zb ∨ k = tb ∨ lv.ownBlock = some k) := fun k h => by
  rcases h with h | h | h | h
  · exact .inl h
  · exact .inr (.inl h)
  · exact .inr (.inr (.inl h))
  · exact .inr (.inr (.inr (.inr h)))
theorem infoOB : (Try.prog.info? 35).map (·.size) = some 5 := by kernel_rfl
set_option maxHeartbeats 4000000 in
set_option maxRecDepth 100000 in
theorem put_ok (B sb lb zb tb : Nat) (lv v : Value) (room used g n p : Int) (gr : Bool) (dA : Option Addr) (dc : Nat) (l d : List Int) (E : List (En × Value)) (Z : List (Lot × Int)) (T : List (List Int × Int × Int)) (w : World) (hS : SX w B sb lb zb tb lv room used E Z T) (hv : Rd w .u8 v l) (hk : BytesOk l) (hll : l.length ≤ 1000000) (hd : Rd w .u8 (.slice dA d.length dc) d) (hdk : BytesOk d) (hdl : d.length ≤ 1000000) (hg : U64 g) (hn : U64 n) (hBw : B ≤ w.heap.size) (hdT : RdT w (.slice dA d.length dc) d) (hne : nameE l = 0) (hno : ∀ y ∈ E, ¬(y.1.t = padT l ∧ y.1.g = g ∧ y.1.n = n)) (hz0 : 0 ≤ zget Z (padT l, g) ∧ zget Z (padT l, g) ≤ 1048576) (hlong : zget Z (padT l, g) + ((d.length : Int) + 16) ≤ room) (hroom : room ≤ 1048576) (hok : St.Ok ⟨E, Z, used⟩) (hus : used ≤ room) (hp : 0 ≤ p ∧ p ≤ 255) :
    Calls Try.prog 12 #[.pointer (some ⟨sb, 0, none⟩), v, .agg #[.int .u64 g, .int .u64 n, .int .u8 p, .bool gr, (.slice dA d.length dc)]] w fun e w' => e = .returned (.int .i64 0) ∧ ∃ lv', (∃ v', SX w' B sb lb zb tb lv' room ((evict (padT l, g) ((d.length : Int) + 16) room Z.length ⟨E, Z, used⟩).used + ((d.length : Int) + 16)) ((evict (padT l, g) ((d.length : Int) + 16) room Z.length ⟨E, Z, used⟩).E ++ [(⟨padT l, g, n, p, d⟩, v')]) (zadd (evict (padT l, g) ((d.length : Int) + 16) room Z.length ⟨E, Z, used⟩).Z (padT l, g) ((d.length : Int) + 16)) (tadd T (padT l) g n)) ∧ KB (fun g => g = sb ∨ g = lb ∨ g = zb ∨ g = tb ∨ lv.ownBlock = some g) w w' ∧ (lv'.ownBlock = lv.ownBlock ∨ ∃ k, lv'.ownBlock = some k ∧ w.heap.size ≤ k) ∧ (evict (padT l, g) ((d.length : Int) + 16) room Z.length ⟨E, Z, used⟩).used + ((d.length : Int) + 16) ≤ room := by
  have hfar := hS.far
  have HND := Lib.hid (hS.nsd hdT)
  have hO0 := Blk.new w 35 #[.int .u64 g, .int .u64 n, .int .u8 p, .bool gr, (.slice dA d.length dc)]
  have hb0 : Below w.heap.size w (w.alloc (.cells #[.int .u64 g, .int .u64 n, .int .u8 p, .bool gr, (.slice dA d.length dc)] 35)) := (Below.refl _ _).alloc (Nat.le_refl _) _
  have hS0 := hS.kept hb0
  have hv0 := hv.below hb0
  have hd0 := hd.below hb0
  obtain ⟨vA, vc, rfl⟩ := hv.form
  go_enter Try.func12, Try.ntmps12
  go_upto_region 1 with fail
  refine wp_world (fun wz => SX wz B sb lb zb tb lv room used E Z T ∧ Blk wz w.heap.size 35 #[.int .u64 g, .int .u64 n, .int .u8 p, .bool gr, (.slice dA d.length dc)] ∧ Rd wz .u8 (.slice vA l.length vc) l ∧ Rd wz .u8 (.slice dA d.length dc) d ∧ Below w.heap.size w wz) ⟨hS0, hO0, hv0, hd0, hb0⟩ ?_
  clear hS0 hO0 hv0 hd0 hb0 hS hv hd
  rintro w1 ⟨hS, hO, hv, hd, hb⟩
  have o0 : World.cell? w1 ⟨w.heap.size, 0, none⟩ = some ((.int .u64 g)) := hO.cell 0
  have o1 : World.cell? w1 ⟨w.heap.size, 1, none⟩ = some ((.int .u64 n)) := hO.cell 1
  have o2 : World.cell? w1 ⟨w.heap.size, 2, none⟩ = some ((.int .u8 p)) := hO.cell 2
  have o3 : World.cell? w1 ⟨w.heap.size, 3, none⟩ = some ((.bool gr)) := hO.cell 3
  have o4 : World.cell? w1 ⟨w.heap.size, 4, none⟩ = some ((.slice dA d.length dc)) := hO.cell 4
  have hnm := name_any (.slice vA l.length vc) l g n w1 hv hk (by omega)
  have hks := keyR_size (g := g) (n := n) hk
  obtain ⟨KV, hKV⟩ : ∃ KV, KV = keyR l g n := ⟨_, rfl⟩
  have hk1 := keyR_one l g n
  rw [← hKV] at hnm hks hk1
  have HKV := Lib.hid hKV
  clear hKV
  obtain ⟨ec, hec⟩ : ∃ ec, ec = nameE l := ⟨_, rfl⟩
  rw [← hec] at hnm
  rw [hne] at hec
  subst hec
  go_upto_region 4 with (first | (go_at_call 29; refine hnm.mono ?_; rintro e w2 ⟨rfl, hb2⟩) | (refine wpList_store_new rfl 71 (.tmp 7) (.tmp 22) rfl 71 _ KV rfl rfl (by rw [info71, hks]) (by rw [hks]; rfl) hk1 ?_) | fail)
  clear hnm o0 o1 o2 o3 o4
  have hba : Below w2.heap.size w2 (w2.alloc (.cells KV 71)) := (Below.refl _ _).alloc (Nat.le_refl _) _
  refine wp_world (fun wz => SX wz B sb lb zb tb lv room used E Z T ∧ Blk wz w.heap.size 35 #[.int .u64 g, .int .u64 n, .int .u8 p, .bool gr, (.slice dA d.length dc)] ∧ Blk wz w2.heap.size 71 KV ∧ Rd wz .u8 (.slice dA d.length dc) d ∧ Below w.heap.size w wz) ⟨(hS.kept hb2).kept hba, (hO.same hb2).same hba, Blk.new w2 71 KV, (hd.below hb2).below hba, (hb.trans (hb2.mono hb.size)).trans (hba.mono (Nat.le_trans hb.size hb2.size))⟩ ?_
  obtain ⟨kb, hkb⟩ : ∃ kb, kb = w2.heap.size := ⟨_, rfl⟩
  have hkw : w.heap.size < kb := by rw [hkb]; exact (hO.same hb2).lt
  rw [← hkb]
  clear hba hS hO hv hd hb hb2 hkb
  rintro w3 ⟨hS, hO, hV, hd, hb⟩
  have hpt := padT32 hne hk
  have hKe : KV = keyC (padT l) g n := by rw [HKV.out, keyR, if_pos hne]
  have hko : KeyOk Try.prog 71 (.agg KV) := by rw [hKe]; exact ok_key hpt hg hn
  have hlk := fun W (h : KM Try.prog 71 W lb (E.map ekv)) => h.look_no law71 (t := 76) Try.underlying76 (obj_zero W) hko (fun y hy e => by
    obtain ⟨z, hz, rfl⟩ := List.mem_map.1 hy
    have hzk := hno z hz
    have h3 := key_inj (hS.ok z hz).t hpt (by rw [← hKe]; injection e)
    exact hzk h3) true
  simp only [if_true] at hlk
  have c2 : World.cell? w3.drew ⟨sb, 2, none⟩ = some (.map (some lb)) := hS.blk.cell 2
  have hSd : SX w3.drew B sb lb zb tb lv room used E Z T := { hS with blk := hS.blk }
  have r6 : w3.drew.rangeAt kb 0 KV.toList := rows_at (show Blk w3.drew kb 71 KV from hV)
  have HKP : Hid (∀ W, Below w3.heap.size w3 W → World.cell? W.drew ⟨sb, 2, none⟩ = some (.map (some lb)) ∧ W.drew.rangeAt kb 0 KV.toList ∧ KM Try.prog 71 W.drew lb (E.map ekv)) := Lib.hid (fun W hW => by
    have h1 := hS.kept hW
    have h2 := hV.same hW
    exact ⟨h1.blk.cell 2, rows_at h2, h1.kl⟩)
  have hba : Below w3.heap.size w3 (w3.alloc (.cells #[.int .u64 0, .int .u64 0, .int .u8 0, .bool false, .slice none 0 0] 35)) := (Below.refl _ _).alloc (Nat.le_refl _) _
  have hbb : Below w3.heap.size w3 (w3.alloc (.cells #[.int .u64 0, .int .u64 0, .int .u8 0, .bool false, .slice none 0 0] 35)) := (Below.refl _ _).alloc (Nat.le_refl _) _
  go_upto_region 6 with fail
  refine wp_region_held_drew (S := fun W => World.cell? W ⟨sb, 2, none⟩ = some (.map (some lb)) ∧ W.rangeAt kb 0 KV.toList ∧ KM Try.prog 71 W lb (E.map ekv)) (by kernel_rfl) (by first | with_reducible exact ⟨c2, r6, hSd.kl⟩ | with_reducible exact HKP.out _ hba | with_reducible exact HKP.out _ hbb) (fun _ => ?_)
  refine wpAnyH_take (i := 0) (oi := ({ dst := some 28, op := Op.move (Operand.tmp 0), type := 25, pos := _, after := #[], guard := none } : Oper)) (v := ?_) rfl (by kernel_rfl) (by kernel_rfl) (by kernel_rfl) (fun _ _ _ h => h) (Or.inl ⟨by rfl, ?_⟩) (by first | with_reducible exact ⟨c2, r6, hSd.kl⟩ | with_reducible exact HKP.out _ hba | with_reducible exact HKP.out _ hbb) ?_
  rotate_left
  · intro w hSw
    try dsimp only at hSw
    go_simp
    try with_reducible rfl
  try simp only [Act.put, List.setIfInBounds_toArray, List.set_cons_zero, List.set_cons_succ]
  refine wpAnyH_take (i := 1) (oi := ({ dst := some 29, op := Op.nilCheck (Operand.tmp 28), type := 0, pos := _, after := #[{ on := 0, ground := Ground.data }], guard := none } : Oper)) (v := ?_) rfl (by kernel_rfl) (by kernel_rfl) (by kernel_rfl) (fun _ _ _ h => h) (Or.inl ⟨by rfl, ?_⟩) (by first | with_reducible exact ⟨c2, r6, hSd.kl⟩ | with_reducible exact HKP.out _ hba | with_reducible exact HKP.out _ hbb) ?_
  rotate_left
  · intro w hSw
    try dsimp only at hSw
    go_simp
    try with_reducible rfl
  try simp only [Act.put, List.setIfInBounds_toArray, List.set_cons_zero, List.set_cons_succ]
  refine wpAnyH_take (i := 2) (oi := ({ dst := some 30, op := Op.fieldAddr 81 (Operand.tmp 29) 2, type := 0, pos := _, after := #[{ on := 1, ground := Ground.data }], guard := none } : Oper)) (v := ?_) rfl (by kernel_rfl) (by kernel_rfl) (by kernel_rfl) (fun _ _ _ h => h) (Or.inl ⟨by rfl, ?_⟩) (by first | with_reducible exact ⟨c2, r6, hSd.kl⟩ | with_reducible exact HKP.out _ hba | with_reducible exact HKP.out _ hbb) ?_
  rotate_left
  · intro w hSw
    try dsimp only at hSw
    go_simp
    try with_reducible rfl
  try simp only [Act.put, List.setIfInBounds_toArray, List.set_cons_zero, List.set_cons_succ]
  refine wpAnyH_take (i := 3) (oi := ({ dst := some 31, op := Op.load 76 (Operand.tmp 30), type := 76, pos := _, after := #[{ on := 2, ground := Ground.data }], guard := none } : Oper)) (v := ?_) rfl (by kernel_rfl) (by kernel_rfl) (by kernel_rfl) (fun _ _ _ h => h) (Or.inl ⟨by rfl, ?_⟩) (by first | with_reducible exact ⟨c2, r6, hSd.kl⟩ | with_reducible exact HKP.out _ hba | with_reducible exact HKP.out _ hbb) ?_
  rotate_left
  · intro w hSw
    try dsimp only at hSw
    go_simp
    try with_reducible rfl
  try simp only [Act.put, List.setIfInBounds_toArray, List.set_cons_zero, List.set_cons_succ]
  refine wpAnyH_take (i := 4) (oi := ({ dst := some 32, op := Op.load 71 (Operand.tmp 7), type := 71, pos := _, after := #[], guard := none } : Oper)) (v := (.agg KV.toList.toArray)) rfl (by kernel_rfl) (by kernel_rfl) (by kernel_rfl) (fun _ _ _ h => h) (yieldsIf_load_mid (by rfl) 71 (.tmp 7) rfl kb 0 rfl KV.toList _ (fun _ h => h.2.1) Try.underlying71 rfl (by rw [info71, Array.length_toList, hks])) (by first | with_reducible exact ⟨c2, r6, hSd.kl⟩ | with_reducible exact HKP.out _ hba | with_reducible exact HKP.out _ hbb) ?_
  try simp only [Act.put, List.setIfInBounds_toArray, List.set_cons_zero, List.set_cons_succ]
  refine wpAnyH_take (i := 5) (oi := ({ dst := some 33, op := Op.lookup 76 (Operand.tmp 31) (Operand.tmp 32) true, type := 41, pos := _, after := #[{ on := 3, ground := Ground.data }, { on := 4, ground := Ground.data }], guard := none } : Oper)) (v := (.tuple #[.agg #[.int .u64 0, .int .u64 0, .int .u8 0, .bool false, .slice none 0 0], .bool false])) rfl (by kernel_rfl) (by kernel_rfl) (by kernel_rfl) (fun _ _ _ h => h) (yieldsIf_look (by rfl) 76 (.tmp 31) (.tmp 32) true rfl (.map (some lb)) (.agg KV) rfl rfl _ (fun W h => hlk W h.2.2)) (by first | with_reducible exact ⟨c2, r6, hSd.kl⟩ | with_reducible exact HKP.out _ hba | with_reducible exact HKP.out _ hbb) ?_
  try simp only [Act.put, List.setIfInBounds_toArray, List.set_cons_zero, List.set_cons_succ]
  refine wpAnyH_take (i := 6) (oi := ({ dst := some 27, op := Op.move (Operand.tmp 33), type := 41, pos := _, after := #[{ on := 5, ground := Ground.data }], guard := none } : Oper)) (v := ?_) rfl (by kernel_rfl) (by kernel_rfl) (by kernel_rfl) (fun _ _ _ h => h) (Or.inl ⟨by rfl, ?_⟩) (by first | with_reducible exact ⟨c2, r6, hSd.kl⟩ | with_reducible exact HKP.out _ hba | with_reducible exact HKP.out _ hbb) ?_
  rotate_left
  · intro w hSw
    try dsimp only at hSw
    go_simp
    try with_reducible rfl
  try simp only [Act.put, List.setIfInBounds_toArray, List.set_cons_zero, List.set_cons_succ]
  refine wpAnyH_take (i := 7) (oi := ({ dst := some 34, op := Op.extract (Operand.tmp 27) 0, type := 35, pos := _, after := #[{ on := 6, ground := Ground.data }], guard := none } : Oper)) (v := ?_) rfl (by kernel_rfl) (by kernel_rfl) (by kernel_rfl) (fun _ _ _ h => h) (Or.inl ⟨by rfl, ?_⟩) (by first | with_reducible exact ⟨c2, r6, hSd.kl⟩ | with_reducible exact HKP.out _ hba | with_reducible exact HKP.out _ hbb) ?_
  rotate_left
  · intro w hSw
    try dsimp only at hSw
    go_simp
    try with_reducible rfl
  try simp only [Act.put, List.setIfInBounds_toArray, List.set_cons_zero, List.set_cons_succ]
  refine wpAnyH_take (i := 8) (oi := ({ dst := some 35, op := Op.extract (Operand.tmp 27) 1, type := 4, pos := _, after := #[{ on := 6, ground := Ground.data }, { on := 10, ground := Ground.gcOnly Departure.lateStores }], guard := none } : Oper)) (v := ?_) rfl (by kernel_rfl) (by kernel_rfl) (by kernel_rfl) (fun _ _ _ h => h) (Or.inl ⟨by rfl, ?_⟩) (by first | with_reducible exact ⟨c2, r6, hSd.kl⟩ | with_reducible exact HKP.out _ hba | with_reducible exact HKP.out _ hbb) ?_
  rotate_left
  · intro w hSw
    try dsimp only at hSw
    go_simp
    try with_reducible rfl
  try simp only [Act.put, List.setIfInBounds_toArray, List.set_cons_zero, List.set_cons_succ]
  refine wpAnyH_ready (rs := [9]) (by kernel_rfl) (by simp) ?_
  refine AllReadyH.cons (o := ({ dst := some 9, op := Op.alloc 35, type := 0, pos := _, after := #[], guard := none } : Oper)) rfl (fun K hK => ?_) AllReadyH.nil
  go_simp
  refine hK.out _ _ (by first | with_reducible exact ⟨c2, r6, hSd.kl⟩ | with_reducible exact HKP.out _ hba | with_reducible exact HKP.out _ hbb) (fun _ => ?_)
  clear hK K
  try simp only [Act.put, List.setIfInBounds_toArray, List.set_cons_zero, List.set_cons_succ]
  refine wpAnyH_ready (rs := [10]) (by kernel_rfl) (by simp) ?_
  refine AllReadyH.cons (o := ({ dst := none, op := Op.store 35 (Operand.tmp 9) (Operand.tmp 34), type := 0, pos := _, after := #[{ on := 9, ground := Ground.data }, { on := 7, ground := Ground.data }, { on := 0, ground := Ground.phase }, { on := 1, ground := Ground.phase }, { on := 2, ground := Ground.phase }, { on := 3, ground := Ground.phase }, { on := 4, ground := Ground.phase }, { on := 5, ground := Ground.phase }, { on := 6, ground := Ground.phase }, { on := 7, ground := Ground.phase }, { on := 8, ground := Ground.textOnly Departure.lateStores }, { on := 9, ground := Ground.phase }], guard := none } : Oper)) rfl (fun K hK => ?_) AllReadyH.nil
  go_simp
  refine hK.out _ _ (by first | with_reducible exact ⟨c2, r6, hSd.kl⟩ | with_reducible exact HKP.out _ hba | with_reducible exact HKP.out _ hbb) (fun _ => ?_)
  clear hK K
  try simp only [Act.put, List.setIfInBounds_toArray, List.set_cons_zero, List.set_cons_succ]
  refine wpAnyH_take (i := 11) (oi := ({ dst := some 10, op := Op.assign (Operand.tmp 35), type := 4, pos := _, after := #[{ on := 8, ground := Ground.data }, { on := 10, ground := Ground.chain }, { on := 0, ground := Ground.phase }, { on := 1, ground := Ground.phase }, { on := 2, ground := Ground.phase }, { on := 3, ground := Ground.phase }, { on := 4, ground := Ground.phase }, { on := 5, ground := Ground.phase }, { on := 6, ground := Ground.phase }, { on := 7, ground := Ground.phase }, { on := 8, ground := Ground.phase }, { on := 9, ground := Ground.phase }, { on := 10, ground := Ground.phase }], guard := none } : Oper)) (v := ?_) rfl (by kernel_rfl) (by kernel_rfl) (by kernel_rfl) (fun _ _ _ h => h) (Or.inl ⟨by rfl, ?_⟩) (by first | with_reducible exact ⟨c2, r6, hSd.kl⟩ | with_reducible exact HKP.out _ hba | with_reducible exact HKP.out _ hbb) ?_
  rotate_left
  · intro w hSw
    try dsimp only at hSw
    go_simp
    try with_reducible rfl
  try simp only [Act.put, List.setIfInBounds_toArray, List.set_cons_zero, List.set_cons_succ]
  refine wpAnyH_done (by kernel_rfl) ?_ _
  go_upto_region 7 with fail
  have hBb : Below w.heap.size w (w3.alloc (.cells #[.int .u64 0, .int .u64 0, .int .u8 0, .bool false, .slice none 0 0] 35)) := hb.trans (hbb.mono hb.size)
  have hSb := hS.kept hbb
  have hOb := hO.same hbb
  have hVb := hV.same hbb
  have hdb := hd.below hbb
  refine wp_world (fun wz => SX wz B sb lb zb tb lv room used E Z T ∧ Blk wz w.heap.size 35 #[.int .u64 g, .int .u64 n, .int .u8 p, .bool gr, (.slice dA d.length dc)] ∧ Blk wz kb 71 KV ∧ Rd wz .u8 (.slice dA d.length dc) d ∧ Below w.heap.size w wz) ⟨{ hSb with blk := hSb.blk }, hOb, hVb, hdb, below_drewN hBb 1⟩ ?_
  clear hSd hSb hOb hVb hdb hBb hba hbb c2 r6 HKP hS hO hV hd hb
  rintro w4 ⟨hS, hO, hV, hd, hb⟩
  subst hKe
  clear hlk hko HKV
  have hpl := hpt.1
  have hrg := key_range hV
  have o0 : World.cell? w4 ⟨w.heap.size, 0, none⟩ = some (.int .u64 g) := hO.cell 0
  have hba : Below w4.heap.size w4 (w4.alloc (.cells (lotC (padT l) g) 84)) := (Below.refl _ _).alloc (Nat.le_refl _) _
  have hls := lot_size (g := g) hpt
  go_upto_region 10 with (first | (refine wpList_load_mid rfl 69 (.tmp 37) rfl kb 0 rfl ((padT l).map (Value.int .u8)) _ hrg Try.underlying69 rfl (by rw [info69, List.length_map, hpl]) ?_; show wpList _ _ _ _ (Act.put _ _ (.agg (trkC (padT l)))) _) | (refine wpList_build2 rfl 84 0 1 (.tmp 38) (.tmp 41) rfl (.agg (trkC (padT l))) (.int .u64 g) rfl rfl (lotC (padT l) g) (built84 (padT l) g hpl) ?_) | (refine wpList_store_new rfl 84 (.tmp 11) (.tmp 42) rfl 84 _ (lotC (padT l) g) rfl rfl (by rw [info84, hls]) (by rw [hls]; rfl) (lot_one _ _) ?_) | fail)
  refine wp_world (fun wz => SX wz B sb lb zb tb lv room used E Z T ∧ Blk wz w.heap.size 35 #[.int .u64 g, .int .u64 n, .int .u8 p, .bool gr, (.slice dA d.length dc)] ∧ Blk wz kb 71 (keyC (padT l) g n) ∧ Blk wz w4.heap.size 84 (lotC (padT l) g) ∧ Rd wz .u8 (.slice dA d.length dc) d ∧ Below w.heap.size w wz) ⟨hS.kept hba, hO.same hba, hV.same hba, Blk.new w4 84 _, hd.below hba, hb.trans (hba.mono hb.size)⟩ ?_
  obtain ⟨xb, hxb⟩ : ∃ xb, xb = w4.heap.size := ⟨_, rfl⟩
  have hxw : w.heap.size < xb ∧ kb < xb := by rw [hxb]; exact ⟨hO.lt, hV.lt⟩
  rw [← hxb]
  clear hba hrg hS hO hV hd hb hxb o0
  rintro w5 ⟨hS, hO, hV, hX, hd, hb⟩
  have hSd : SX w5.drew B sb lb zb tb lv room used E Z T := { hS with blk := hS.blk }
  have hOd : Blk w5.drew w.heap.size 35 #[.int .u64 g, .int .u64 n, .int .u8 p, .bool gr, (.slice dA d.length dc)] := hO
  have hXd : Blk w5.drew xb 84 (lotC (padT l) g) := hX
  have hzok := hS.zok
  have HK10 : Hid (∀ W, Below w5.drew.heap.size w5.drew W → World.cell? W ⟨sb, 4, none⟩ = some (.map (some zb)) ∧ World.cell? W ⟨sb, 0, none⟩ = some (.int .i64 room) ∧ World.cell? W ⟨w.heap.size, 0, none⟩ = some (.int .u64 g) ∧ World.cell? W ⟨w.heap.size, 1, none⟩ = some (.int .u64 n) ∧ World.cell? W ⟨w.heap.size, 2, none⟩ = some (.int .u8 p) ∧ World.cell? W ⟨w.heap.size, 3, none⟩ = some (.bool gr) ∧ World.cell? W ⟨w.heap.size, 4, none⟩ = some (.slice dA d.length dc) ∧ W.rangeAt xb 0 (lotC (padT l) g).toList ∧ KM Try.prog 84 W zb (Z.map zkv)) := Lib.hid (fun W hW => by
    have h1 := hSd.kept hW
    have h2 := hOd.same hW
    have h3 := hXd.same hW
    exact ⟨h1.blk.cell 4, h1.blk.cell 0, h2.cell 0, h2.cell 1, h2.cell 2, h2.cell 3, h2.cell 4, rows_at h3, h1.kz⟩)
  have hw10 : wrap64 (zget Z (padT l, g) + ((d.length : Int) + 16)) = zget Z (padT l, g) + ((d.length : Int) + 16) := by unfold wrap64; omega
  have hw10b : IntKind.i64.wrap (zget Z (padT l, g) + ((d.length : Int) + 16)) = zget Z (padT l, g) + ((d.length : Int) + 16) := by rw [IntKind.wrap_i64]; omega
  have hl10 : decide (room < zget Z (padT l, g) + ((d.length : Int) + 16)) = false := decide_eq_false (by omega)
  go_upto_region 10 with fail
  refine wp_region_held_drew (S := fun W => World.cell? W ⟨sb, 4, none⟩ = some (.map (some zb)) ∧ World.cell? W ⟨sb, 0, none⟩ = some (.int .i64 room) ∧ World.cell? W ⟨w.heap.size, 0, none⟩ = some (.int .u64 g) ∧ World.cell? W ⟨w.heap.size, 1, none⟩ = some (.int .u64 n) ∧ World.cell? W ⟨w.heap.size, 2, none⟩ = some (.int .u8 p) ∧ World.cell? W ⟨w.heap.size, 3, none⟩ = some (.bool gr) ∧ World.cell? W ⟨w.heap.size, 4, none⟩ = some (.slice dA d.length dc) ∧ W.rangeAt xb 0 (lotC (padT l) g).toList ∧ KM Try.prog 84 W zb (Z.map zkv)) (by kernel_rfl) (by first | with_reducible exact HK10.out _ (Below.refl _ _) | with_reducible exact HK10.out _ hb6) (fun _ => ?_)
  refine wpAnyH_take (i := 0) (oi := ({ dst := some 43, op := Op.move (Operand.tmp 0), type := 25, pos := _, after := #[], guard := none } : Oper)) (v := ?_) rfl (by kernel_rfl) (by kernel_rfl) (by kernel_rfl) (fun _ _ _ h => h) (Or.inl ⟨by rfl, ?_⟩) (by first | with_reducible exact HK10.out _ (Below.refl _ _) | with_reducible exact HK10.out _ hb6) ?_
  rotate_left
  · intro w hSw
    try dsimp only at hSw
    go_simp
    try with_reducible rfl
  try simp only [Act.put, List.setIfInBounds_toArray, List.set_cons_zero, List.set_cons_succ]
  refine wpAnyH_take (i := 1) (oi := ({ dst := some 44, op := Op.nilCheck (Operand.tmp 43), type := 0, pos := _, after := #[{ on := 0, ground := Ground.data }], guard := none } : Oper)) (v := ?_) rfl (by kernel_rfl) (by kernel_rfl) (by kernel_rfl) (fun _ _ _ h => h) (Or.inl ⟨by rfl, ?_⟩) (by first | with_reducible exact HK10.out _ (Below.refl _ _) | with_reducible exact HK10.out _ hb6) ?_
  rotate_left
  · intro w hSw
    try dsimp only at hSw
    go_simp
    try with_reducible rfl
  try simp only [Act.put, List.setIfInBounds_toArray, List.set_cons_zero, List.set_cons_succ]
  refine wpAnyH_take (i := 2) (oi := ({ dst := some 45, op := Op.fieldAddr 81 (Operand.tmp 44) 4, type := 0, pos := _, after := #[{ on := 1, ground := Ground.data }], guard := none } : Oper)) (v := ?_) rfl (by kernel_rfl) (by kernel_rfl) (by kernel_rfl) (fun _ _ _ h => h) (Or.inl ⟨by rfl, ?_⟩) (by first | with_reducible exact HK10.out _ (Below.refl _ _) | with_reducible exact HK10.out _ hb6) ?_
  rotate_left
  · intro w hSw
    try dsimp only at hSw
    go_simp
    try with_reducible rfl
  try simp only [Act.put, List.setIfInBounds_toArray, List.set_cons_zero, List.set_cons_succ]
  refine wpAnyH_take (i := 3) (oi := ({ dst := some 46, op := Op.load 77 (Operand.tmp 45), type := 77, pos := _, after := #[{ on := 2, ground := Ground.data }], guard := none } : Oper)) (v := ?_) rfl (by kernel_rfl) (by kernel_rfl) (by kernel_rfl) (fun _ _ _ h => h) (Or.inl ⟨by rfl, ?_⟩) (by first | with_reducible exact HK10.out _ (Below.refl _ _) | with_reducible exact HK10.out _ hb6) ?_
  rotate_left
  · intro w hSw
    try dsimp only at hSw
    go_simp
    try with_reducible rfl
  try simp only [Act.put, List.setIfInBounds_toArray, List.set_cons_zero, List.set_cons_succ]
  refine wpAnyH_take (i := 4) (oi := ({ dst := some 47, op := Op.load 84 (Operand.tmp 11), type := 84, pos := _, after := #[], guard := none } : Oper)) (v := (.agg (lotC (padT l) g).toList.toArray)) rfl (by kernel_rfl) (by kernel_rfl) (by kernel_rfl) (fun _ _ _ h => h) (yieldsIf_load_mid (by rfl) 84 (.tmp 11) rfl xb 0 rfl (lotC (padT l) g).toList _ (fun _ h => h.2.2.2.2.2.2.2.1) Try.underlying84 rfl (by rw [info84, Array.length_toList, hls])) (by first | with_reducible exact HK10.out _ (Below.refl _ _) | with_reducible exact HK10.out _ hb6) ?_
  try simp only [Act.put, List.setIfInBounds_toArray, List.set_cons_zero, List.set_cons_succ]
  refine wpAnyH_take (i := 5) (oi := ({ dst := some 48, op := Op.lookup 77 (Operand.tmp 46) (Operand.tmp 47) false, type := 3, pos := _, after := #[{ on := 3, ground := Ground.data }, { on := 4, ground := Ground.data }], guard := none } : Oper)) (v := (.int .i64 (zget Z (padT l, g)))) rfl (by kernel_rfl) (by kernel_rfl) (by kernel_rfl) (fun _ _ _ h => h) (yieldsIf_look (by rfl) 77 (.tmp 46) (.tmp 47) false rfl (.map (some zb)) (.agg (lotC (padT l) g)) rfl rfl _ (fun W h => KM.zlook (x := (padT l, g)) h.2.2.2.2.2.2.2.2 hzok ⟨hpt, hg⟩)) (by first | with_reducible exact HK10.out _ (Below.refl _ _) | with_reducible exact HK10.out _ hb6) ?_
  try simp only [Act.put, List.setIfInBounds_toArray, List.set_cons_zero, List.set_cons_succ]
  refine wpAnyH_take (i := 6) (oi := ({ dst := some 49, op := Op.load 35 (Operand.tmp 5), type := 35, pos := _, after := #[], guard := none } : Oper)) (v := ?_) rfl (by kernel_rfl) (by kernel_rfl) (by kernel_rfl) (fun _ _ _ h => h) (Or.inl ⟨by rfl, ?_⟩) (by first | with_reducible exact HK10.out _ (Below.refl _ _) | with_reducible exact HK10.out _ hb6) ?_
  rotate_left
  · intro w hSw
    try dsimp only at hSw
    go_simp
    try with_reducible rfl
  try simp only [Act.put, List.setIfInBounds_toArray, List.set_cons_zero, List.set_cons_succ]
  refine wpAnyH_take (i := 9) (oi := ({ dst := some 52, op := Op.move (Operand.tmp 0), type := 25, pos := _, after := #[], guard := none } : Oper)) (v := ?_) rfl (by kernel_rfl) (by kernel_rfl) (by kernel_rfl) (fun _ _ _ h => h) (Or.inl ⟨by rfl, ?_⟩) (by first | with_reducible exact HK10.out _ (Below.refl _ _) | with_reducible exact HK10.out _ hb6) ?_
  rotate_left
  · intro w hSw
    try dsimp only at hSw
    go_simp
    try with_reducible rfl
  try simp only [Act.put, List.setIfInBounds_toArray, List.set_cons_zero, List.set_cons_succ]
  refine wpAnyH_take (i := 10) (oi := ({ dst := some 53, op := Op.nilCheck (Operand.tmp 52), type := 0, pos := _, after := #[{ on := 9, ground := Ground.data }], guard := none } : Oper)) (v := ?_) rfl (by kernel_rfl) (by kernel_rfl) (by kernel_rfl) (fun _ _ _ h => h) (Or.inl ⟨by rfl, ?_⟩) (by first | with_reducible exact HK10.out _ (Below.refl _ _) | with_reducible exact HK10.out _ hb6) ?_
  rotate_left
  · intro w hSw
    try dsimp only at hSw
    go_simp
    try with_reducible rfl
  try simp only [Act.put, List.setIfInBounds_toArray, List.set_cons_zero, List.set_cons_succ]
  refine wpAnyH_take (i := 11) (oi := ({ dst := some 54, op := Op.fieldAddr 81 (Operand.tmp 53) 0, type := 0, pos := _, after := #[{ on := 10, ground := Ground.data }], guard := none } : Oper)) (v := ?_) rfl (by kernel_rfl) (by kernel_rfl) (by kernel_rfl) (fun _ _ _ h => h) (Or.inl ⟨by rfl, ?_⟩) (by first | with_reducible exact HK10.out _ (Below.refl _ _) | with_reducible exact HK10.out _ hb6) ?_
  rotate_left
  · intro w hSw
    try dsimp only at hSw
    go_simp
    try with_reducible rfl
  try simp only [Act.put, List.setIfInBounds_toArray, List.set_cons_zero, List.set_cons_succ]
  refine wpAnyH_take (i := 12) (oi := ({ dst := some 55, op := Op.load 3 (Operand.tmp 54), type := 3, pos := _, after := #[{ on := 11, ground := Ground.data }], guard := none } : Oper)) (v := ?_) rfl (by kernel_rfl) (by kernel_rfl) (by kernel_rfl) (fun _ _ _ h => h) (Or.inl ⟨by rfl, ?_⟩) (by first | with_reducible exact HK10.out _ (Below.refl _ _) | with_reducible exact HK10.out _ hb6) ?_
  rotate_left
  · intro w hSw
    try dsimp only at hSw
    go_simp
    try with_reducible rfl
  try simp only [Act.put, List.setIfInBounds_toArray, List.set_cons_zero, List.set_cons_succ]
  refine wpAnyH_ready (rs := [7]) (by kernel_rfl) (by simp) ?_
  refine AllReadyH.cons (o := ({ dst := some 50, op := Op.call { callee := Callee.value (Operand.func 31), args := #[Operand.tmp 49], argTypes := #[35] }, type := 3, pos := _, after := #[{ on := 6, ground := Ground.data }], guard := none } : Oper)) rfl (fun K hK => ?_) AllReadyH.nil
  go_simp
  go_at_call 31
  (with_reducible refine (cost_any g n p gr dA d.length dc _ (by omega)).mono ?_)
  rintro e w6 ⟨rfl, hb6⟩
  refine hK.out _ _ (by first | with_reducible exact HK10.out _ (Below.refl _ _) | with_reducible exact HK10.out _ hb6) (fun _ => ?_)
  clear hK K
  try simp only [Act.put, List.setIfInBounds_toArray, List.set_cons_zero, List.set_cons_succ]
  refine wpAnyH_take (i := 8) (oi := ({ dst := some 51, op := Op.binOp BinOp.add 3 (Operand.tmp 48) (Operand.tmp 50) 3, type := 3, pos := _, after := #[{ on := 5, ground := Ground.data }, { on := 7, ground := Ground.data }], guard := none } : Oper)) (v := ?_) rfl (by kernel_rfl) (by kernel_rfl) (by kernel_rfl) (fun _ _ _ h => h) (Or.inl ⟨by rfl, ?_⟩) (by first | with_reducible exact HK10.out _ (Below.refl _ _) | with_reducible exact HK10.out _ hb6) ?_
  rotate_left
  · intro w hSw
    try dsimp only at hSw
    go_simp
    try with_reducible rfl
  try simp only [Act.put, List.setIfInBounds_toArray, List.set_cons_zero, List.set_cons_succ]
  refine wpAnyH_take (i := 13) (oi := ({ dst := some 56, op := Op.binOp BinOp.gtr 3 (Operand.tmp 51) (Operand.tmp 55) 3, type := 4, pos := _, after := #[{ on := 8, ground := Ground.data }, { on := 12, ground := Ground.data }], guard := none } : Oper)) (v := ?_) rfl (by kernel_rfl) (by kernel_rfl) (by kernel_rfl) (fun _ _ _ h => h) (Or.inl ⟨by rfl, ?_⟩) (by first | with_reducible exact HK10.out _ (Below.refl _ _) | with_reducible exact HK10.out _ hb6) ?_
  rotate_left
  · intro w hSw
    try dsimp only at hSw
    go_simp
    try with_reducible rfl
  try simp only [Act.put, List.setIfInBounds_toArray, List.set_cons_zero, List.set_cons_succ]
  refine wpAnyH_done (by kernel_rfl) ?_ _
  have hS6 := hSd.kept hb6
  have hO6 := hOd.same hb6
  have hV6 := (show Blk w5.drew kb 71 (keyC (padT l) g n) from hV).same hb6
  have hX6 := hXd.same hb6
  have hB6 : KB (fun g => g = sb ∨ g = lb ∨ g = zb ∨ lv.ownBlock = some g) w w6 := KB.of (Below.trans (show Below w.heap.size w w5.drew from below_drewN hb 1) (hb6.mono hb.size))
  clear hSd hOd hXd HK10 hw10 hw10b hS hO hV hX hd hb hb6
  go_wp2_with fail
  clear hl10
  go_loopg [] Z.length (fun gk wr => ∃ (lv' : Value) (s : St), gk = s.Z.length ∧ SX wr B sb lb zb tb lv' room s.used s.E s.Z T ∧ Blk wr w.heap.size 35 #[.int .u64 g, .int .u64 n, .int .u8 p, .bool gr, (.slice dA d.length dc)] ∧ Blk wr kb 71 (keyC (padT l) g n) ∧ Blk wr xb 84 (lotC (padT l) g) ∧ KB (fun g => g = sb ∨ g = lb ∨ g = zb ∨ lv.ownBlock = some g) w wr ∧ s.Ok ∧ s.used ≤ room ∧ zget s.Z (padT l, g) = zget Z (padT l, g) ∧ Hid (evict (padT l, g) ((d.length : Int) + 16) room s.Z.length s = evict (padT l, g) ((d.length : Int) + 16) room Z.length ⟨E, Z, used⟩) ∧ lv'.ownBlock = lv.ownBlock)
  case atStart => exact ⟨lv, ⟨E, Z, used⟩, rfl, hS6, hO6, hV6, hX6, hB6, hok, hus, rfl, Lib.hid rfl, rfl⟩
  case round =>
    clear hS6 hO6 hV6 hX6 hB6 hok hus
    obtain ⟨lv', s, hgk, hS, hO, hV, hX, hB, hok, hus, hzg, HEV, hlb⟩ := hrel
    have c0 : World.cell? wr ⟨sb, 0, none⟩ = some (.int .i64 room) := hS.blk.cell 0
    have c1 : World.cell? wr ⟨sb, 1, none⟩ = some (.int .i64 s.used) := hS.blk.cell 1
    have o0 : World.cell? wr ⟨w.heap.size, 0, none⟩ = some ((.int .u64 g)) := hO.cell 0
    have o1 : World.cell? wr ⟨w.heap.size, 1, none⟩ = some ((.int .u64 n)) := hO.cell 1
    have o2 : World.cell? wr ⟨w.heap.size, 2, none⟩ = some ((.int .u8 p)) := hO.cell 2
    have o3 : World.cell? wr ⟨w.heap.size, 3, none⟩ = some ((.bool gr)) := hO.cell 3
    have o4 : World.cell? wr ⟨w.heap.size, 4, none⟩ = some ((.slice dA d.length dc)) := hO.cell 4
    have hu0 : 0 ≤ s.used := by rw [hok.sum]; exact zsum_nonneg hok.nn
    have hw12 : wrap64 (s.used + ((d.length : Int) + 16)) = s.used + ((d.length : Int) + 16) := by unfold wrap64; omega
    have hw12b : IntKind.i64.wrap (s.used + ((d.length : Int) + 16)) = s.used + ((d.length : Int) + 16) := by rw [IntKind.wrap_i64]; omega
    by_cases hfit : s.used + ((d.length : Int) + 16) ≤ room
    · have hd12 : decide (room < s.used + ((d.length : Int) + 16)) = false := decide_eq_false (by omega)
      go_wp2_with fail
      have Cc0 := Cls.cells c0 (World.block_lt_of_cell? _ _ c0)
      have Cc1 := Cls.cells c1 (World.block_lt_of_cell? _ _ c1)
      have Co0 := Cls.cells o0 (World.block_lt_of_cell? _ _ o0)
      have Co1 := Cls.cells o1 (World.block_lt_of_cell? _ _ o1)
      have Co2 := Cls.cells o2 (World.block_lt_of_cell? _ _ o2)
      have Co3 := Cls.cells o3 (World.block_lt_of_cell? _ _ o3)
      have Co4 := Cls.cells o4 (World.block_lt_of_cell? _ _ o4)
      refine wp_region_cls (by kernel_rfl) (by kernel_rfl) ?_
      repeat (go_big_quiet_step ((first | (go_at_call 31; with_reducible exact Cls.call (Nat.le_refl _) (cost_any g n p gr dA d.length dc _ (by omega))))))
      refine wpQuiet_nil ?_
      intro w7 hb7
      have c0 := keepB_cell c0 w7 hb7
      have c1 := keepB_cell c1 w7 hb7
      have o0 := keepB_cell o0 w7 hb7
      have o1 := keepB_cell o1 w7 hb7
      have o2 := keepB_cell o2 w7 hb7
      have o3 := keepB_cell o3 w7 hb7
      have o4 := keepB_cell o4 w7 hb7
      clear Cc0 Cc1 Co0 Co1 Co2 Co3 Co4
      (try simp only [Exit.then, Exit.inBlock])
      go_upto_region 17 with fail
      have hb7' : Below wr.heap.size wr w7 := hb7
      refine wp_world (fun wz => SX wz B sb lb zb tb lv' room s.used s.E s.Z T ∧ Blk wz w.heap.size 35 #[.int .u64 g, .int .u64 n, .int .u8 p, .bool gr, (.slice dA d.length dc)] ∧ Blk wz kb 71 (keyC (padT l) g n) ∧ Blk wz xb 84 (lotC (padT l) g) ∧ KB (fun g => g = sb ∨ g = lb ∨ g = zb ∨ lv.ownBlock = some g) w wz) ⟨hS.kept hb7', hO.same hb7', hV.same hb7', hX.same hb7', hB.trans (KB.of hb7')⟩ ?_
      clear hb7 hb7' hS hO hV hX hB c0 c1 o0 o1 o2 o3 o4 hd12
      rintro wa ⟨hS, hO, hV, hX, hB⟩
      have hSd : SX wa.drew B sb lb zb tb lv' room s.used s.E s.Z T := { hS with blk := hS.blk }
      have c4 : World.cell? wa.drew ⟨sb, 4, none⟩ = some (.map (some zb)) := hSd.blk.cell 4
      have r17 : wa.drew.rangeAt xb 0 (lotC (padT l) g).toList := rows_at (show Blk wa.drew xb 84 _ from hX)
      have hzok := hS.zok
      obtain ⟨zx, hzx⟩ : ∃ zx, zx = zget Z (padT l, g) := ⟨_, rfl⟩
      have HZX := Lib.hid hzx
      refine wp_region_held_drew (S := fun W => World.cell? W ⟨sb, 4, none⟩ = some (.map (some zb)) ∧ W.rangeAt xb 0 (lotC (padT l) g).toList ∧ KM Try.prog 84 W zb (s.Z.map zkv)) (by kernel_rfl) (by with_reducible exact ⟨c4, r17, hSd.kz⟩) (fun _ => ?_)
      refine wpAnyH_take (i := 0) (oi := ({ dst := some 86, op := Op.move (Operand.tmp 0), type := 25, pos := _, after := #[], guard := none } : Oper)) (v := ?_) rfl (by kernel_rfl) (by kernel_rfl) (by kernel_rfl) (fun _ _ _ h => h) (Or.inl ⟨by rfl, ?_⟩) (by with_reducible exact ⟨c4, r17, hSd.kz⟩) ?_
      rotate_left
      · intro w hSw
        try dsimp only at hSw
        go_simp
        try with_reducible rfl
      try simp only [Act.put, List.setIfInBounds_toArray, List.set_cons_zero, List.set_cons_succ]
      refine wpAnyH_take (i := 1) (oi := ({ dst := some 87, op := Op.nilCheck (Operand.tmp 86), type := 0, pos := _, after := #[{ on := 0, ground := Ground.data }], guard := none } : Oper)) (v := ?_) rfl (by kernel_rfl) (by kernel_rfl) (by kernel_rfl) (fun _ _ _ h => h) (Or.inl ⟨by rfl, ?_⟩) (by with_reducible exact ⟨c4, r17, hSd.kz⟩) ?_
      rotate_left
      · intro w hSw
        try dsimp only at hSw
        go_simp
        try with_reducible rfl
      try simp only [Act.put, List.setIfInBounds_toArray, List.set_cons_zero, List.set_cons_succ]
      refine wpAnyH_take (i := 2) (oi := ({ dst := some 88, op := Op.fieldAddr 81 (Operand.tmp 87) 4, type := 0, pos := _, after := #[{ on := 1, ground := Ground.data }], guard := none } : Oper)) (v := ?_) rfl (by kernel_rfl) (by kernel_rfl) (by kernel_rfl) (fun _ _ _ h => h) (Or.inl ⟨by rfl, ?_⟩) (by with_reducible exact ⟨c4, r17, hSd.kz⟩) ?_
      rotate_left
      · intro w hSw
        try dsimp only at hSw
        go_simp
        try with_reducible rfl
      try simp only [Act.put, List.setIfInBounds_toArray, List.set_cons_zero, List.set_cons_succ]
      refine wpAnyH_take (i := 3) (oi := ({ dst := some 89, op := Op.load 77 (Operand.tmp 88), type := 77, pos := _, after := #[{ on := 2, ground := Ground.data }], guard := none } : Oper)) (v := ?_) rfl (by kernel_rfl) (by kernel_rfl) (by kernel_rfl) (fun _ _ _ h => h) (Or.inl ⟨by rfl, ?_⟩) (by with_reducible exact ⟨c4, r17, hSd.kz⟩) ?_
      rotate_left
      · intro w hSw
        try dsimp only at hSw
        go_simp
        try with_reducible rfl
      try simp only [Act.put, List.setIfInBounds_toArray, List.set_cons_zero, List.set_cons_succ]
      refine wpAnyH_take (i := 4) (oi := ({ dst := some 90, op := Op.load 84 (Operand.tmp 11), type := 84, pos := _, after := #[], guard := none } : Oper)) (v := (.agg (lotC (padT l) g).toList.toArray)) rfl (by kernel_rfl) (by kernel_rfl) (by kernel_rfl) (fun _ _ _ h => h) (yieldsIf_load_mid (by rfl) 84 (.tmp 11) rfl xb 0 rfl (lotC (padT l) g).toList _ (fun _ h => h.2.1) Try.underlying84 rfl (by rw [info84, Array.length_toList, hls])) (by with_reducible exact ⟨c4, r17, hSd.kz⟩) ?_
      try simp only [Act.put, List.setIfInBounds_toArray, List.set_cons_zero, List.set_cons_succ]
      refine wpAnyH_take (i := 5) (oi := ({ dst := some 91, op := Op.lookup 77 (Operand.tmp 89) (Operand.tmp 90) false, type := 3, pos := _, after := #[{ on := 3, ground := Ground.data }, { on := 4, ground := Ground.data }], guard := none } : Oper)) (v := (.int .i64 (zget Z (padT l, g)))) rfl (by kernel_rfl) (by kernel_rfl) (by kernel_rfl) (fun _ _ _ h => h) (yieldsIf_look (by rfl) 77 (.tmp 89) (.tmp 90) false rfl (.map (some zb)) (.agg (lotC (padT l) g)) rfl rfl _ (fun W h => by rw [← hzg]; exact KM.zlook (x := (padT l, g)) h.2.2 hzok ⟨hpt, hg⟩)) (by with_reducible exact ⟨c4, r17, hSd.kz⟩) ?_
      try simp only [Act.put, List.setIfInBounds_toArray, List.set_cons_zero, List.set_cons_succ]
      refine wpAnyH_take (i := 6) (oi := ({ dst := some 92, op := Op.binOp BinOp.eql 3 (Operand.tmp 91) (Operand.const (Value.int IntKind.i64 0)) 3, type := 4, pos := _, after := #[{ on := 5, ground := Ground.data }], guard := none } : Oper)) (v := ?_) rfl (by kernel_rfl) (by kernel_rfl) (by kernel_rfl) (fun _ _ _ h => h) (Or.inl ⟨by rfl, ?_⟩) (by with_reducible exact ⟨c4, r17, hSd.kz⟩) ?_
      rotate_left
      · intro w hSw
        try dsimp only at hSw
        go_simp
        try with_reducible rfl
      try simp only [Act.put, List.setIfInBounds_toArray, List.set_cons_zero, List.set_cons_succ]
      refine wpAnyH_done (by kernel_rfl) ?_ _
      go_upto_if 92 with fail
      go_cut [] (fun wc => ∃ lv2, SY wc B sb lb zb tb lv2 room s.used s.E ((zadd s.Z (padT l, g) ((d.length : Int) + 16)).map (·.1)) s.Z T ∧ Blk wc w.heap.size 35 #[.int .u64 g, .int .u64 n, .int .u8 p, .bool gr, (.slice dA d.length dc)] ∧ Blk wc kb 71 (keyC (padT l) g n) ∧ Blk wc xb 84 (lotC (padT l) g) ∧ KB (fun g => g = sb ∨ g = lb ∨ g = zb ∨ g = tb ∨ lv.ownBlock = some g) w wc ∧ (lv2.ownBlock = lv.ownBlock ∨ ∃ k, lv2.ownBlock = some k ∧ w.heap.size ≤ k))
      case first =>
        by_cases hz0' : zx = 0
        · have hd18 : (zget Z (padT l, g) == 0) = true := by rw [← HZX.out]; simpa using hz0'
          rw [hd18]
          clear hd18
          go_upto_region 18 with fail
          refine wp_world (fun wz => SX wz B sb lb zb tb lv' room s.used s.E s.Z T ∧ Blk wz w.heap.size 35 #[.int .u64 g, .int .u64 n, .int .u8 p, .bool gr, (.slice dA d.length dc)] ∧ Blk wz kb 71 (keyC (padT l) g n) ∧ Blk wz xb 84 (lotC (padT l) g) ∧ KB (fun g => g = sb ∨ g = lb ∨ g = zb ∨ lv.ownBlock = some g) w wz) ⟨hSd, hO, hV, hX, hB.drewN 1⟩ ?_
          clear c4 r17 hSd hS hO hV hX hB
          rintro wb ⟨hS, hO, hV, hX, hB⟩
          have hSd : SX wb.drew B sb lb zb tb lv' room s.used s.E s.Z T := { hS with blk := hS.blk }
          have c3 : World.cell? wb.drew ⟨sb, 3, none⟩ = some lv' := hSd.blk.cell 3
          have r18 : wb.drew.rangeAt xb 0 (lotC (padT l) g).toList := rows_at (show Blk wb.drew xb 84 _ from hX)
          have hba18 : Below wb.drew.heap.size wb.drew (wb.drew.alloc (.cells (lotC (padT l) g) 84)) := (Below.refl _ _).alloc (Nat.le_refl _) _
          have c3b : World.cell? (wb.alloc (.cells (lotC (padT l) g) 84)) ⟨sb, 3, none⟩ = some lv' := (hSd.kept hba18).blk.cell 3
          have hLR18 : LR (wb.drew.alloc (.cells (lotC (padT l) g) 84)) B lv' (s.Z.map (·.1)) := own_same hSd.lr hba18
          have hL18 := Blk.new wb.drew 84 (lotC (padT l) g)
          have hBs18 : B ≤ (wb.drew.alloc (.cells (lotC (padT l) g) 84)).heap.size := Nat.le_trans hBw (Nat.le_trans (KB.sz (show KB (fun g => g = sb ∨ g = lb ∨ g = zb ∨ lv.ownBlock = some g) w wb.drew from hB.drewN 1)) hba18.size)
          have hba18b : Below wb.drew.heap.size wb.drew (wb.alloc (.cells (lotC (padT l) g) 84)).drew := hba18
          have hLR18b : LR (wb.alloc (.cells (lotC (padT l) g) 84)).drew B lv' (s.Z.map (·.1)) := hLR18
          have hL18b : Blk (wb.alloc (.cells (lotC (padT l) g) 84)).drew wb.drew.heap.size 84 (lotC (padT l) g) := hL18
          have hBs18b : B ≤ (wb.alloc (.cells (lotC (padT l) g) 84)).drew.heap.size := hBs18
          have hZL : (s.Z.map (·.1)).length ≤ 1000000 := by rw [List.length_map]; have h1 := zsum_len hok.pos; have h2 := hok.sum; omega
          have hK18 : ∀ W, Below wb.drew.heap.size wb.drew W → W.rangeAt xb 0 (lotC (padT l) g).toList := fun W hW => rows_at ((show Blk wb.drew xb 84 _ from hX).same hW)
          have HK18 := Lib.hid hK18
          clear hK18
          refine wp_region_held_drew (S := fun W => W.rangeAt xb 0 (lotC (padT l) g).toList) (by kernel_rfl) (by first | with_reducible exact r18 | with_reducible exact HK18.out _ hba18 | with_reducible exact HK18.out _ hba18b | with_reducible exact x9 | with_reducible exact x10) (fun _ => ?_)
          refine wpAnyH_take (i := 0) (oi := ({ dst := some 93, op := Op.move (Operand.tmp 0), type := 25, pos := _, after := #[], guard := none } : Oper)) (v := ?_) rfl (by kernel_rfl) (by kernel_rfl) (by kernel_rfl) (fun _ _ _ h => h) (Or.inl ⟨by rfl, ?_⟩) (by first | with_reducible exact r18 | with_reducible exact HK18.out _ hba18 | with_reducible exact HK18.out _ hba18b | with_reducible exact x9 | with_reducible exact x10) ?_
          rotate_left
          · intro w hSw
            try dsimp only at hSw
            go_simp
            try with_reducible rfl
          try simp only [Act.put, List.setIfInBounds_toArray, List.set_cons_zero, List.set_cons_succ]
          refine wpAnyH_take (i := 1) (oi := ({ dst := some 94, op := Op.move (Operand.tmp 0), type := 25, pos := _, after := #[], guard := none } : Oper)) (v := ?_) rfl (by kernel_rfl) (by kernel_rfl) (by kernel_rfl) (fun _ _ _ h => h) (Or.inl ⟨by rfl, ?_⟩) (by first | with_reducible exact r18 | with_reducible exact HK18.out _ hba18 | with_reducible exact HK18.out _ hba18b | with_reducible exact x9 | with_reducible exact x10) ?_
          rotate_left
          · intro w hSw
            try dsimp only at hSw
            go_simp
            try with_reducible rfl
          try simp only [Act.put, List.setIfInBounds_toArray, List.set_cons_zero, List.set_cons_succ]
          refine wpAnyH_take (i := 2) (oi := ({ dst := some 95, op := Op.nilCheck (Operand.tmp 94), type := 0, pos := _, after := #[{ on := 1, ground := Ground.data }], guard := none } : Oper)) (v := ?_) rfl (by kernel_rfl) (by kernel_rfl) (by kernel_rfl) (fun _ _ _ h => h) (Or.inl ⟨by rfl, ?_⟩) (by first | with_reducible exact r18 | with_reducible exact HK18.out _ hba18 | with_reducible exact HK18.out _ hba18b | with_reducible exact x9 | with_reducible exact x10) ?_
          rotate_left
          · intro w hSw
            try dsimp only at hSw
            go_simp
            try with_reducible rfl
          try simp only [Act.put, List.setIfInBounds_toArray, List.set_cons_zero, List.set_cons_succ]
          refine wpAnyH_take (i := 3) (oi := ({ dst := some 96, op := Op.fieldAddr 81 (Operand.tmp 95) 3, type := 0, pos := _, after := #[{ on := 2, ground := Ground.data }], guard := none } : Oper)) (v := ?_) rfl (by kernel_rfl) (by kernel_rfl) (by kernel_rfl) (fun _ _ _ h => h) (Or.inl ⟨by rfl, ?_⟩) (by first | with_reducible exact r18 | with_reducible exact HK18.out _ hba18 | with_reducible exact HK18.out _ hba18b | with_reducible exact x9 | with_reducible exact x10) ?_
          rotate_left
          · intro w hSw
            try dsimp only at hSw
            go_simp
            try with_reducible rfl
          try simp only [Act.put, List.setIfInBounds_toArray, List.set_cons_zero, List.set_cons_succ]
          refine wpAnyH_take (i := 5) (oi := ({ dst := some 98, op := Op.load 84 (Operand.tmp 11), type := 84, pos := _, after := #[], guard := none } : Oper)) (v := (.agg (lotC (padT l) g).toList.toArray)) rfl (by kernel_rfl) (by kernel_rfl) (by kernel_rfl) (fun _ _ _ h => h) (yieldsIf_load_mid (by rfl) 84 (.tmp 11) rfl xb 0 rfl (lotC (padT l) g).toList _ (fun _ h => h) Try.underlying84 rfl (by rw [info84, Array.length_toList, hls])) (by first | with_reducible exact r18 | with_reducible exact HK18.out _ hba18 | with_reducible exact HK18.out _ hba18b | with_reducible exact x9 | with_reducible exact x10) ?_
          try simp only [Act.put, List.setIfInBounds_toArray, List.set_cons_zero, List.set_cons_succ]
          refine wpAnyH_ready (rs := [4, 6]) (by kernel_rfl) (by simp) ?_
          refine (AllReadyH.cons (o := ({ dst := some 97, op := Op.load 79 (Operand.tmp 96), type := 79, pos := _, after := #[{ on := 3, ground := Ground.data }], guard := none } : Oper)) rfl (fun K hK => ?_) (AllReadyH.cons (o := ({ dst := some 99, op := Op.buildSlice 79 1 #[(0, Operand.tmp 98)], type := 79, pos := _, after := #[{ on := 5, ground := Ground.data }], guard := none } : Oper)) rfl (fun K hK => ?_) AllReadyH.nil))
          · go_simp
            try with_reducible exact trivial
            refine hK.out _ _ (by first | with_reducible exact r18 | with_reducible exact HK18.out _ hba18 | with_reducible exact HK18.out _ hba18b | with_reducible exact x9 | with_reducible exact x10) (fun _ => ?_)
            clear hK K
            try simp only [Act.put, List.setIfInBounds_toArray, List.set_cons_zero, List.set_cons_succ]
            refine wpAnyH_ready (rs := [6]) (by kernel_rfl) (by simp) ?_
            refine (AllReadyH.cons (o := ({ dst := some 99, op := Op.buildSlice 79 1 #[(0, Operand.tmp 98)], type := 79, pos := _, after := #[{ on := 5, ground := Ground.data }], guard := none } : Oper)) rfl (fun K hK => ?_) AllReadyH.nil)
            refine step_lit84 (by rfl) _ rfl (padT l) g hpl (by first | rfl | simp [Act.eval]) ?_
            refine hK.out _ _ (by first | with_reducible exact r18 | with_reducible exact HK18.out _ hba18 | with_reducible exact HK18.out _ hba18b | with_reducible exact x9 | with_reducible exact x10) (fun _ => ?_)
            clear hK K
            try simp only [Act.put, List.setIfInBounds_toArray, List.set_cons_zero, List.set_cons_succ]
            refine wpAnyH_ready (rs := [7]) (by kernel_rfl) (by simp) ?_
            refine (AllReadyH.cons (o := ({ dst := some 100, op := Op.call { callee := Callee.builtin Builtin.append, args := #[Operand.tmp 97, Operand.tmp 99], argTypes := #[79, 79] }, type := 79, pos := _, after := #[{ on := 4, ground := Ground.data }, { on := 6, ground := Ground.data }], guard := none } : Oper)) rfl (fun K hK => ?_) AllReadyH.nil)
            first | (refine step_app84 (by rfl) _ _ (by rfl) B lv' (s.Z.map (·.1)) (padT l) g hpt hZL (by rfl) hLR18 wb.drew.heap.size (by rfl) hL18 hBs18 ?_) | (refine step_app84 (by rfl) _ _ (by rfl) B lv' (s.Z.map (·.1)) (padT l) g hpt hZL (by rfl) hLR18b wb.drew.heap.size (by rfl) hL18b hBs18b ?_)
            intro v9 w9 hR9 hg9 ho9
            replace hg9 : (wb.drew.alloc (.cells (lotC (padT l) g) 84)).grownBy w9 lv'.ownBlock := hg9
            obtain ⟨N9, hN9⟩ : ∃ N9, N9 = (s.Z.map (·.1) ++ [(padT l, g)]).length := ⟨_, rfl⟩
            obtain ⟨A9, k9, e9, _⟩ := sl_of_own hR9
            rw [← hN9] at e9
            subst e9
            have HN9 := Lib.hid hN9
            clear hN9
            have b9 : Blk w9 sb 81 (shC room s.used lb zb tb lv') := (hSd.blk.same hba18).grown hg9 (fun e => own_blk_ne hLR18 (hSd.blk.same hba18) (by decide) e.symm)
            have hX9 : Blk w9 xb 84 (lotC (padT l) g) := ((show Blk wb.drew xb 84 _ from hX).same hba18).grown hg9 (fun e => hfar xb (by omega) (.inr (.inr (.inr (by rw [← hlb]; exact e.symm)))))
            have x9 := rows_at hX9
            have f9 := b9.frozen 3
            have c9 : World.cell? w9 ⟨sb, 3, none⟩ = some lv' := b9.cell 3
            have x10 := rows_at (Blk.far hX9 (p := ⟨sb, 3, none⟩) (hX9.ne_ b9 (by decide)) (.slice A9 N9 k9))
            refine hK.out _ _ (by first | with_reducible exact r18 | with_reducible exact HK18.out _ hba18 | with_reducible exact HK18.out _ hba18b | with_reducible exact x9 | with_reducible exact x10) (fun _ => ?_)
            clear hK K
            try simp only [Act.put, List.setIfInBounds_toArray, List.set_cons_zero, List.set_cons_succ]
            refine wpAnyH_take (i := 8) (oi := ({ dst := some 101, op := Op.nilCheck (Operand.tmp 93), type := 0, pos := _, after := #[{ on := 0, ground := Ground.data }, { on := 0, ground := Ground.phase }, { on := 1, ground := Ground.phase }, { on := 2, ground := Ground.phase }, { on := 3, ground := Ground.phase }, { on := 4, ground := Ground.phase }, { on := 5, ground := Ground.phase }, { on := 6, ground := Ground.phase }, { on := 7, ground := Ground.phase }], guard := none } : Oper)) (v := ?_) rfl (by kernel_rfl) (by kernel_rfl) (by kernel_rfl) (fun _ _ _ h => h) (Or.inl ⟨by rfl, ?_⟩) (by first | with_reducible exact r18 | with_reducible exact HK18.out _ hba18 | with_reducible exact HK18.out _ hba18b | with_reducible exact x9 | with_reducible exact x10) ?_
            rotate_left
            · intro w hSw
              try dsimp only at hSw
              go_simp
              try with_reducible rfl
            try simp only [Act.put, List.setIfInBounds_toArray, List.set_cons_zero, List.set_cons_succ]
            refine wpAnyH_take (i := 9) (oi := ({ dst := some 102, op := Op.fieldAddr 81 (Operand.tmp 101) 3, type := 0, pos := _, after := #[{ on := 8, ground := Ground.data }, { on := 0, ground := Ground.phase }, { on := 1, ground := Ground.phase }, { on := 2, ground := Ground.phase }, { on := 3, ground := Ground.phase }, { on := 4, ground := Ground.phase }, { on := 5, ground := Ground.phase }, { on := 6, ground := Ground.phase }, { on := 7, ground := Ground.phase }], guard := none } : Oper)) (v := ?_) rfl (by kernel_rfl) (by kernel_rfl) (by kernel_rfl) (fun _ _ _ h => h) (Or.inl ⟨by rfl, ?_⟩) (by first | with_reducible exact r18 | with_reducible exact HK18.out _ hba18 | with_reducible exact HK18.out _ hba18b | with_reducible exact x9 | with_reducible exact x10) ?_
            rotate_left
            · intro w hSw
              try dsimp only at hSw
              go_simp
              try with_reducible rfl
            try simp only [Act.put, List.setIfInBounds_toArray, List.set_cons_zero, List.set_cons_succ]
            refine wpAnyH_ready (rs := [10]) (by kernel_rfl) (by simp) ?_
            refine (AllReadyH.cons (o := ({ dst := none, op := Op.store 79 (Operand.tmp 102) (Operand.tmp 100), type := 0, pos := _, after := #[{ on := 9, ground := Ground.data }, { on := 7, ground := Ground.data }, { on := 7, ground := Ground.chain }, { on := 0, ground := Ground.phase }, { on := 1, ground := Ground.phase }, { on := 2, ground := Ground.phase }, { on := 3, ground := Ground.phase }, { on := 4, ground := Ground.phase }, { on := 5, ground := Ground.phase }, { on := 6, ground := Ground.phase }, { on := 7, ground := Ground.phase }], guard := none } : Oper)) rfl (fun K hK => ?_) AllReadyH.nil)
            go_simp
            refine hK.out _ _ (by first | with_reducible exact r18 | with_reducible exact HK18.out _ hba18 | with_reducible exact HK18.out _ hba18b | with_reducible exact x9 | with_reducible exact x10) (fun _ => ?_)
            clear hK K
            try simp only [Act.put, List.setIfInBounds_toArray, List.set_cons_zero, List.set_cons_succ]
            refine wpAnyH_done (by kernel_rfl) ?_ _
            go_wp2_with fail
            go_meet
            have hSY : SY (w9.setCell ⟨sb, 3, none⟩ (.slice A9 N9 k9)) B sb lb zb tb (.slice A9 N9 k9) room s.used s.E ((zadd s.Z (padT l, g) ((d.length : Int) + 16)).map (·.1)) s.Z T := by rw [zadd_fst0 hok.pos ((hzg.trans HZX.out.symm).trans hz0')]; exact SY.setV (hSd.kept hba18).sy hg9 hR9
            have hKB : KB (fun g => g = sb ∨ g = lb ∨ g = zb ∨ lv.ownBlock = some g) wb.drew (w9.setCell ⟨sb, 3, none⟩ (.slice A9 N9 k9)) := ((KB.of hba18).grown hg9 (fun k hk => .inl (.inr (.inr (.inr (hlb.symm.trans hk)))))).set (p := ⟨sb, 3, none⟩) (.inl rfl) _
            exact ⟨.slice A9 N9 k9, hSY, Blk.kb (show Blk wb.drew w.heap.size 35 #[.int .u64 g, .int .u64 n, .int .u8 p, .bool gr, (.slice dA d.length dc)] from hO) hKB (hfar _ (Nat.le_refl _)), Blk.kb (show Blk wb.drew kb 71 _ from hV) hKB (hfar _ (by omega)), Blk.kb (show Blk wb.drew xb 84 _ from hX) hKB (hfar _ (by omega)), (KB.trans (show KB (fun g => g = sb ∨ g = lb ∨ g = zb ∨ lv.ownBlock = some g) w wb.drew from hB.drewN 1) hKB).mono put_ss, ho9.elim (fun e => .inl (e.trans hlb)) (fun e => .inr ⟨_, e, Nat.le_trans (KB.sz hB) (by simp)⟩)⟩
          · refine step_lit84 (by rfl) _ rfl (padT l) g hpl (by first | rfl | simp [Act.eval]) ?_
            refine hK.out _ _ (by first | with_reducible exact r18 | with_reducible exact HK18.out _ hba18 | with_reducible exact HK18.out _ hba18b | with_reducible exact x9 | with_reducible exact x10) (fun _ => ?_)
            clear hK K
            try simp only [Act.put, List.setIfInBounds_toArray, List.set_cons_zero, List.set_cons_succ]
            refine wpAnyH_ready (rs := [4]) (by kernel_rfl) (by simp) ?_
            refine (AllReadyH.cons (o := ({ dst := some 97, op := Op.load 79 (Operand.tmp 96), type := 79, pos := _, after := #[{ on := 3, ground := Ground.data }], guard := none } : Oper)) rfl (fun K hK => ?_) AllReadyH.nil)
            go_simp
            try with_reducible exact trivial
            refine hK.out _ _ (by first | with_reducible exact r18 | with_reducible exact HK18.out _ hba18 | with_reducible exact HK18.out _ hba18b | with_reducible exact x9 | with_reducible exact x10) (fun _ => ?_)
            clear hK K
            try simp only [Act.put, List.setIfInBounds_toArray, List.set_cons_zero, List.set_cons_succ]
            refine wpAnyH_ready (rs := [7]) (by kernel_rfl) (by simp) ?_
            refine (AllReadyH.cons (o := ({ dst := some 100, op := Op.call { callee := Callee.builtin Builtin.append, args := #[Operand.tmp 97, Operand.tmp 99], argTypes := #[79, 79] }, type := 79, pos := _, after := #[{ on := 4, ground := Ground.data }, { on := 6, ground := Ground.data }], guard := none } : Oper)) rfl (fun K hK => ?_) AllReadyH.nil)
            first | (refine step_app84 (by rfl) _ _ (by rfl) B lv' (s.Z.map (·.1)) (padT l) g hpt hZL (by rfl) hLR18 wb.drew.heap.size (by rfl) hL18 hBs18 ?_) | (refine step_app84 (by rfl) _ _ (by rfl) B lv' (s.Z.map (·.1)) (padT l) g hpt hZL (by rfl) hLR18b wb.drew.heap.size (by rfl) hL18b hBs18b ?_)
            intro v9 w9 hR9 hg9 ho9
            replace hg9 : (wb.drew.alloc (.cells (lotC (padT l) g) 84)).grownBy w9 lv'.ownBlock := hg9
            obtain ⟨N9, hN9⟩ : ∃ N9, N9 = (s.Z.map (·.1) ++ [(padT l, g)]).length := ⟨_, rfl⟩
            obtain ⟨A9, k9, e9, _⟩ := sl_of_own hR9
            rw [← hN9] at e9
            subst e9
            have HN9 := Lib.hid hN9
            clear hN9
            have b9 : Blk w9 sb 81 (shC room s.used lb zb tb lv') := (hSd.blk.same hba18).grown hg9 (fun e => own_blk_ne hLR18 (hSd.blk.same hba18) (by decide) e.symm)
            have hX9 : Blk w9 xb 84 (lotC (padT l) g) := ((show Blk wb.drew xb 84 _ from hX).same hba18).grown hg9 (fun e => hfar xb (by omega) (.inr (.inr (.inr (by rw [← hlb]; exact e.symm)))))
            have x9 := rows_at hX9
            have f9 := b9.frozen 3
            have c9 : World.cell? w9 ⟨sb, 3, none⟩ = some lv' := b9.cell 3
            have x10 := rows_at (Blk.far hX9 (p := ⟨sb, 3, none⟩) (hX9.ne_ b9 (by decide)) (.slice A9 N9 k9))
            refine hK.out _ _ (by first | with_reducible exact r18 | with_reducible exact HK18.out _ hba18 | with_reducible exact HK18.out _ hba18b | with_reducible exact x9 | with_reducible exact x10) (fun _ => ?_)
            clear hK K
            try simp only [Act.put, List.setIfInBounds_toArray, List.set_cons_zero, List.set_cons_succ]
            refine wpAnyH_take (i := 8) (oi := ({ dst := some 101, op := Op.nilCheck (Operand.tmp 93), type := 0, pos := _, after := #[{ on := 0, ground := Ground.data }, { on := 0, ground := Ground.phase }, { on := 1, ground := Ground.phase }, { on := 2, ground := Ground.phase }, { on := 3, ground := Ground.phase }, { on := 4, ground := Ground.phase }, { on := 5, ground := Ground.phase }, { on := 6, ground := Ground.phase }, { on := 7, ground := Ground.phase }], guard := none } : Oper)) (v := ?_) rfl (by kernel_rfl) (by kernel_rfl) (by kernel_rfl) (fun _ _ _ h => h) (Or.inl ⟨by rfl, ?_⟩) (by first | with_reducible exact r18 | with_reducible exact HK18.out _ hba18 | with_reducible exact HK18.out _ hba18b | with_reducible exact x9 | with_reducible exact x10) ?_
            rotate_left
            · intro w hSw
              try dsimp only at hSw
              go_simp
              try with_reducible rfl
            try simp only [Act.put, List.setIfInBounds_toArray, List.set_cons_zero, List.set_cons_succ]
            refine wpAnyH_take (i := 9) (oi := ({ dst := some 102, op := Op.fieldAddr 81 (Operand.tmp 101) 3, type := 0, pos := _, after := #[{ on := 8, ground := Ground.data }, { on := 0, ground := Ground.phase }, { on := 1, ground := Ground.phase }, { on := 2, ground := Ground.phase }, { on := 3, ground := Ground.phase }, { on := 4, ground := Ground.phase }, { on := 5, ground := Ground.phase }, { on := 6, ground := Ground.phase }, { on := 7, ground := Ground.phase }], guard := none } : Oper)) (v := ?_) rfl (by kernel_rfl) (by kernel_rfl) (by kernel_rfl) (fun _ _ _ h => h) (Or.inl ⟨by rfl, ?_⟩) (by first | with_reducible exact r18 | with_reducible exact HK18.out _ hba18 | with_reducible exact HK18.out _ hba18b | with_reducible exact x9 | with_reducible exact x10) ?_
            rotate_left
            · intro w hSw
              try dsimp only at hSw
              go_simp
              try with_reducible rfl
            try simp only [Act.put, List.setIfInBounds_toArray, List.set_cons_zero, List.set_cons_succ]
            refine wpAnyH_ready (rs := [10]) (by kernel_rfl) (by simp) ?_
            refine (AllReadyH.cons (o := ({ dst := none, op := Op.store 79 (Operand.tmp 102) (Operand.tmp 100), type := 0, pos := _, after := #[{ on := 9, ground := Ground.data }, { on := 7, ground := Ground.data }, { on := 7, ground := Ground.chain }, { on := 0, ground := Ground.phase }, { on := 1, ground := Ground.phase }, { on := 2, ground := Ground.phase }, { on := 3, ground := Ground.phase }, { on := 4, ground := Ground.phase }, { on := 5, ground := Ground.phase }, { on := 6, ground := Ground.phase }, { on := 7, ground := Ground.phase }], guard := none } : Oper)) rfl (fun K hK => ?_) AllReadyH.nil)
            go_simp
            refine hK.out _ _ (by first | with_reducible exact r18 | with_reducible exact HK18.out _ hba18 | with_reducible exact HK18.out _ hba18b | with_reducible exact x9 | with_reducible exact x10) (fun _ => ?_)
            clear hK K
            try simp only [Act.put, List.setIfInBounds_toArray, List.set_cons_zero, List.set_cons_succ]
            refine wpAnyH_done (by kernel_rfl) ?_ _
            go_wp2_with fail
            go_meet
            have hSY : SY (w9.setCell ⟨sb, 3, none⟩ (.slice A9 N9 k9)) B sb lb zb tb (.slice A9 N9 k9) room s.used s.E ((zadd s.Z (padT l, g) ((d.length : Int) + 16)).map (·.1)) s.Z T := by rw [zadd_fst0 hok.pos ((hzg.trans HZX.out.symm).trans hz0')]; exact SY.setV (hSd.kept hba18).sy hg9 hR9
            have hKB : KB (fun g => g = sb ∨ g = lb ∨ g = zb ∨ lv.ownBlock = some g) wb.drew (w9.setCell ⟨sb, 3, none⟩ (.slice A9 N9 k9)) := ((KB.of hba18).grown hg9 (fun k hk => .inl (.inr (.inr (.inr (hlb.symm.trans hk)))))).set (p := ⟨sb, 3, none⟩) (.inl rfl) _
            exact ⟨.slice A9 N9 k9, hSY, Blk.kb (show Blk wb.drew w.heap.size 35 #[.int .u64 g, .int .u64 n, .int .u8 p, .bool gr, (.slice dA d.length dc)] from hO) hKB (hfar _ (Nat.le_refl _)), Blk.kb (show Blk wb.drew kb 71 _ from hV) hKB (hfar _ (by omega)), Blk.kb (show Blk wb.drew xb 84 _ from hX) hKB (hfar _ (by omega)), (KB.trans (show KB (fun g => g = sb ∨ g = lb ∨ g = zb ∨ lv.ownBlock = some g) w wb.drew from hB.drewN 1) hKB).mono put_ss, ho9.elim (fun e => .inl (e.trans hlb)) (fun e => .inr ⟨_, e, Nat.le_trans (KB.sz hB) (by simp)⟩)⟩
        · have hd18 : (zget Z (padT l, g) == 0) = false := by rw [← HZX.out]; simpa using hz0'
          rw [hd18]
          clear hd18
          go_wp2_with fail
          go_meet
          have hSY : SY wa.drew B sb lb zb tb lv' room s.used s.E ((zadd s.Z (padT l, g) ((d.length : Int) + 16)).map (·.1)) s.Z T := by rw [zadd_fst1 (fun e => hz0' (HZX.out.trans (hzg.symm.trans e)))]; exact hSd.sy
          exact ⟨lv', hSY, hO, hV, hX, (KB.drewN hB 1).mono put_ss, .inl hlb⟩
      clear hSd hO hV hX hB c4 r17
      obtain ⟨w18, hwe⟩ : ∃ x, x = wc := ⟨_, rfl⟩
      subst hwe
      obtain ⟨lv2, hS, hO, hV, hX, hB, hlb2⟩ := hcut
      have hks : (keyC (padT l) g n).size = 34 := key_size hpt
      have HSE := Lib.hid ((evict_fits hfit).symm.trans HEV.out)
      have hdT18 : RdT w18 (.slice dA d.length dc) d := RdT.kb hdT hB HND.out
      have hrd18 : Rd w18 .u8 (.slice dA d.length dc) d := hdT18.1
      have o4 : World.cell? w18 ⟨w.heap.size, 4, none⟩ = some (.slice dA d.length dc) := hO.cell 4
      go_upto_region 20 with (first | (go_at_call 33; (with_reducible refine (clone_any (.slice dA d.length dc) d w18 hrd18 (by omega)).mono ?_); rintro e w19 ⟨dv, rfl, hown, hb19⟩; obtain ⟨nA, nk, rfl, _⟩ := sl_of_own hown; have hO19 := hO.same hb19; have p4 : World.cell? w19 ⟨w.heap.size, 4, none⟩ = some (.slice dA d.length dc) := hO19.cell 4; have p3 : World.cell? w19 ⟨w.heap.size, 3, none⟩ = some (.bool gr) := hO19.cell 3; have f4 := hO19.frozen 4; have f3 := hO19.frozen 3) | fail)
      refine wp_world (fun wz => SY wz B sb lb zb tb lv2 room s.used s.E ((zadd s.Z (padT l, g) ((d.length : Int) + 16)).map (·.1)) s.Z T ∧ Blk wz w.heap.size 35 #[.int .u64 g, .int .u64 n, .int .u8 p, .bool false, (.slice nA d.length nk)] ∧ Blk wz kb 71 (keyC (padT l) g n) ∧ Blk wz xb 84 (lotC (padT l) g) ∧ KB (fun g => g = sb ∨ g = lb ∨ g = zb ∨ g = tb ∨ lv.ownBlock = some g) w wz ∧ RdT wz (.slice nA d.length nk) d) ⟨((hS.kept hb19).far hO19 (by decide) (by decide) (by decide) 4 _).far (hO19.set_ 4 _) (by decide) (by decide) (by decide) 3 _, by simpa using (hO19.set_ 4 (.slice nA d.length nk)).set_ 3 (.bool false), ((hV.same hb19).far (p := ⟨w.heap.size, 4, none⟩) (by show kb ≠ w.heap.size; omega) _).far (p := ⟨w.heap.size, 3, none⟩) (by show kb ≠ w.heap.size; omega) _, ((hX.same hb19).far (p := ⟨w.heap.size, 4, none⟩) (by show xb ≠ w.heap.size; omega) _).far (p := ⟨w.heap.size, 3, none⟩) (by show xb ≠ w.heap.size; omega) _, KB.grown (hB.trans (KB.of hb19)) (grown_set (grown_set (grown_refl w19 (some w.heap.size)) 4 _) 3 _) (fun k hk => .inr (by simp at hk; omega)), rdt_set (rdt_set (rdt_of_own hown) hO19 (by decide) 4 _) (hO19.set_ 4 _) (by decide) 3 _⟩ ?_
      clear hS hO hV hX hB hdT18 hrd18 o4 hown hb19 hO19 p4 p3 f4 f3
      rintro w20 ⟨hS, hO, hV, hX, hB, hR⟩
      have hSd : SY w20.drew B sb lb zb tb lv2 room s.used s.E ((zadd s.Z (padT l, g) ((d.length : Int) + 16)).map (·.1)) s.Z T := { hS with blk := hS.blk }
      have hOd : Blk w20.drew w.heap.size 35 #[.int .u64 g, .int .u64 n, .int .u8 p, .bool false, (.slice nA d.length nk)] := hO
      have hVd : Blk w20.drew kb 71 (keyC (padT l) g n) := hV
      have hXd : Blk w20.drew xb 84 (lotC (padT l) g) := hX
      have c2 : World.cell? w20.drew ⟨sb, 2, none⟩ = some (.map (some lb)) := hSd.blk.cell 2
      have r20 := rows_at hVd
      have q20 := rows_at hOd
      obtain ⟨w21n, hrun20, hk20, hg20, hsz20⟩ := hSd.kl.put_new law71 (t := 76) Try.underlying76 (key := .agg (keyC (padT l) g n)) (ok_key hpt hg hn) (fun y hy e => by
        obtain ⟨z, hz, rfl⟩ := List.mem_map.1 hy
        have hz2 : z ∈ E := evict_mem _ _ (by rw [← HSE.out]; exact hz)
        exact hno z hz2 (key_inj (hSd.ok z hz).t hpt (by injection e))) (.agg #[.int .u64 g, .int .u64 n, .int .u8 p, .bool false, (.slice nA d.length nk)])
      have hS21 : SY w21n B sb lb zb tb lv2 room s.used (s.E ++ [(⟨padT l, g, n, p, d⟩, .slice nA d.length nk)]) ((zadd s.Z (padT l, g) ((d.length : Int) + 16)).map (·.1)) s.Z T := by
        obtain ⟨es, clock, hbl⟩ := hSd.kl.blk
        refine hSd.setL hg20 (by rw [List.map_append]; exact hk20) (fun x hx => ?_) (fun x hx => ?_)
        · rcases List.mem_append.1 hx with hx | hx
          · exact rdt_map (hSd.dat x hx) hbl hg20
          · simp only [List.mem_singleton] at hx
            subst hx
            exact rdt_map (show RdT w20.drew _ _ from hR) hbl hg20
        · rcases List.mem_append.1 hx with hx | hx
          · exact hSd.ok x hx
          · simp only [List.mem_singleton] at hx
            subst hx
            exact ⟨hpt, hg, hn, hp, hdk⟩
      have hV21 := hVd.grown hg20 (by simpa using blk_km_ne hVd hSd.kl)
      have hO21 := hOd.grown hg20 (by simpa using blk_km_ne hOd hSd.kl)
      have hX21 := hXd.grown hg20 (by simpa using blk_km_ne hXd hSd.kl)
      have hB21 : KB (fun g => g = sb ∨ g = lb ∨ g = zb ∨ g = tb ∨ lv.ownBlock = some g) w w21n := KB.grown (hB.drewN 1) hg20 (fun k hk => .inl (.inr (.inl (by simpa using hk.symm))))
      have d2 : World.cell? w21n ⟨sb, 2, none⟩ = some (.map (some lb)) := hS21.blk.cell 2
      have s20 := rows_at hV21
      have t20 := rows_at hO21
      clear hk20 hg20 hsz20 hX hR
      refine wp_region_held_drew (S := fun W => World.cell? W ⟨sb, 2, none⟩ = some (.map (some lb)) ∧ W.rangeAt kb 0 (keyC (padT l) g n).toList ∧ W.rangeAt w.heap.size 0 #[.int .u64 g, .int .u64 n, .int .u8 p, .bool false, (.slice nA d.length nk)].toList) (by kernel_rfl) (by first | with_reducible exact ⟨c2, r20, q20⟩ | with_reducible exact ⟨d2, s20, t20⟩) (fun _ => ?_)
      refine wpAnyH_take (i := 0) (oi := ({ dst := some 108, op := Op.move (Operand.tmp 0), type := 25, pos := _, after := #[], guard := none } : Oper)) (v := ?_) rfl (by kernel_rfl) (by kernel_rfl) (by kernel_rfl) (fun _ _ _ h => h) (Or.inl ⟨by rfl, ?_⟩) (by first | with_reducible exact ⟨c2, r20, q20⟩ | with_reducible exact ⟨d2, s20, t20⟩) ?_
      rotate_left
      · intro w hSw
        try dsimp only at hSw
        go_simp
        try with_reducible rfl
      try simp only [Act.put, List.setIfInBounds_toArray, List.set_cons_zero, List.set_cons_succ]
      refine wpAnyH_take (i := 1) (oi := ({ dst := some 109, op := Op.nilCheck (Operand.tmp 108), type := 0, pos := _, after := #[{ on := 0, ground := Ground.data }], guard := none } : Oper)) (v := ?_) rfl (by kernel_rfl) (by kernel_rfl) (by kernel_rfl) (fun _ _ _ h => h) (Or.inl ⟨by rfl, ?_⟩) (by first | with_reducible exact ⟨c2, r20, q20⟩ | with_reducible exact ⟨d2, s20, t20⟩) ?_
      rotate_left
      · intro w hSw
        try dsimp only at hSw
        go_simp
        try with_reducible rfl
      try simp only [Act.put, List.setIfInBounds_toArray, List.set_cons_zero, List.set_cons_succ]
      refine wpAnyH_take (i := 2) (oi := ({ dst := some 110, op := Op.fieldAddr 81 (Operand.tmp 109) 2, type := 0, pos := _, after := #[{ on := 1, ground := Ground.data }], guard := none } : Oper)) (v := ?_) rfl (by kernel_rfl) (by kernel_rfl) (by kernel_rfl) (fun _ _ _ h => h) (Or.inl ⟨by rfl, ?_⟩) (by first | with_reducible exact ⟨c2, r20, q20⟩ | with_reducible exact ⟨d2, s20, t20⟩) ?_
      rotate_left
      · intro w hSw
        try dsimp only at hSw
        go_simp
        try with_reducible rfl
      try simp only [Act.put, List.setIfInBounds_toArray, List.set_cons_zero, List.set_cons_succ]
      refine wpAnyH_take (i := 3) (oi := ({ dst := some 111, op := Op.load 76 (Operand.tmp 110), type := 76, pos := _, after := #[{ on := 2, ground := Ground.data }], guard := none } : Oper)) (v := ?_) rfl (by kernel_rfl) (by kernel_rfl) (by kernel_rfl) (fun _ _ _ h => h) (Or.inl ⟨by rfl, ?_⟩) (by first | with_reducible exact ⟨c2, r20, q20⟩ | with_reducible exact ⟨d2, s20, t20⟩) ?_
      rotate_left
      · intro w hSw
        try dsimp only at hSw
        go_simp
        try with_reducible rfl
      try simp only [Act.put, List.setIfInBounds_toArray, List.set_cons_zero, List.set_cons_succ]
      refine wpAnyH_take (i := 4) (oi := ({ dst := some 112, op := Op.load 71 (Operand.tmp 7), type := 71, pos := _, after := #[], guard := none } : Oper)) (v := (.agg (keyC (padT l) g n).toList.toArray)) rfl (by kernel_rfl) (by kernel_rfl) (by kernel_rfl) (fun _ _ _ h => h) (yieldsIf_load_mid (by rfl) 71 (.tmp 7) rfl kb 0 rfl (keyC (padT l) g n).toList _ (fun _ h => h.2.1) Try.underlying71 rfl (by rw [info71, Array.length_toList, hks])) (by first | with_reducible exact ⟨c2, r20, q20⟩ | with_reducible exact ⟨d2, s20, t20⟩) ?_
      try simp only [Act.put, List.setIfInBounds_toArray, List.set_cons_zero, List.set_cons_succ]
      refine wpAnyH_take (i := 5) (oi := ({ dst := some 113, op := Op.load 35 (Operand.tmp 5), type := 35, pos := _, after := #[], guard := none } : Oper)) (v := (.agg #[.int .u64 g, .int .u64 n, .int .u8 p, .bool false, (.slice nA d.length nk)].toList.toArray)) rfl (by kernel_rfl) (by kernel_rfl) (by kernel_rfl) (fun _ _ _ h => h) (yieldsIf_load_mid (by rfl) 35 (.tmp 5) rfl w.heap.size 0 rfl #[.int .u64 g, .int .u64 n, .int .u8 p, .bool false, (.slice nA d.length nk)].toList _ (fun _ h => h.2.2) Try.underlying35 rfl (by rw [infoOB]; rfl)) (by first | with_reducible exact ⟨c2, r20, q20⟩ | with_reducible exact ⟨d2, s20, t20⟩) ?_
      try simp only [Act.put, List.setIfInBounds_toArray, List.set_cons_zero, List.set_cons_succ]
      refine wpAnyH_ready (rs := [6]) (by kernel_rfl) (by simp) ?_
      refine AllReadyH.cons (o := ({ dst := none, op := Op.mapUpdate 76 (Operand.tmp 111) (Operand.tmp 112) (Operand.tmp 113), type := 0, pos := _, after := #[{ on := 3, ground := Ground.data }, { on := 4, ground := Ground.data }, { on := 5, ground := Ground.data }, { on := 0, ground := Ground.phase }, { on := 1, ground := Ground.phase }, { on := 2, ground := Ground.phase }, { on := 3, ground := Ground.phase }, { on := 4, ground := Ground.phase }, { on := 5, ground := Ground.phase }], guard := none } : Oper)) rfl (fun K hK => ?_) AllReadyH.nil
      refine step_mset rfl 76 (.tmp 111) (.tmp 112) (.tmp 113) rfl (.map (some lb)) (.agg (keyC (padT l) g n)) (.agg #[.int .u64 g, .int .u64 n, .int .u8 p, .bool false, (.slice nA d.length nk)]) rfl rfl rfl _ hrun20 ?_
      refine hK.out _ _ (by first | with_reducible exact ⟨c2, r20, q20⟩ | with_reducible exact ⟨d2, s20, t20⟩) (fun _ => ?_)
      clear hK K
      try simp only [Act.put, List.setIfInBounds_toArray, List.set_cons_zero, List.set_cons_succ]
      refine wpAnyH_done (by kernel_rfl) ?_ _
      go_upto_region 21 with fail
      refine wp_world (fun wz => SY wz B sb lb zb tb lv2 room s.used (s.E ++ [(⟨padT l, g, n, p, d⟩, .slice nA d.length nk)]) ((zadd s.Z (padT l, g) ((d.length : Int) + 16)).map (·.1)) s.Z T ∧ Blk wz w.heap.size 35 #[.int .u64 g, .int .u64 n, .int .u8 p, .bool false, (.slice nA d.length nk)] ∧ Blk wz kb 71 (keyC (padT l) g n) ∧ Blk wz xb 84 (lotC (padT l) g) ∧ KB (fun g => g = sb ∨ g = lb ∨ g = zb ∨ g = tb ∨ lv.ownBlock = some g) w wz) ⟨hS21, hO21, hV21, hX21, hB21⟩ ?_
      clear hS21 hO21 hV21 hX21 hB21 d2 s20 t20 c2 r20 q20 hrun20 hSd hOd hVd hXd hS hO hV hB
      rintro w21 ⟨hS, hO, hV, hX, hB⟩
      have hzok := hS.zok
      have hnd : (s.Z.map (·.1)).Nodup := by
        have h1 := hS.kz.apart
        rw [List.map_map, List.Nodup, List.pairwise_map] at h1
        rw [List.Nodup, List.pairwise_map]
        exact h1.imp (fun {a b} hne e => hne (by show Value.agg (lotC a.1.1 a.1.2) = Value.agg (lotC b.1.1 b.1.2); rw [show a.1 = b.1 from e]))
      go_cut [] (fun wc => SX wc B sb lb zb tb lv2 room s.used (s.E ++ [(⟨padT l, g, n, p, d⟩, .slice nA d.length nk)]) (zadd s.Z (padT l, g) ((d.length : Int) + 16)) T ∧ Blk wc w.heap.size 35 #[.int .u64 g, .int .u64 n, .int .u8 p, .bool false, (.slice nA d.length nk)] ∧ Blk wc kb 71 (keyC (padT l) g n) ∧ KB (fun g => g = sb ∨ g = lb ∨ g = zb ∨ g = tb ∨ lv.ownBlock = some g) w wc)
      case first =>
        have hSd : SY w21.drew B sb lb zb tb lv2 room s.used (s.E ++ [(⟨padT l, g, n, p, d⟩, .slice nA d.length nk)]) ((zadd s.Z (padT l, g) ((d.length : Int) + 16)).map (·.1)) s.Z T := { hS with blk := hS.blk }
        have c4 : World.cell? w21.drew ⟨sb, 4, none⟩ = some (.map (some zb)) := hSd.blk.cell 4
        have r21 := rows_at (show Blk w21.drew xb 84 (lotC (padT l) g) from hX)
        have q21 := rows_at (show Blk w21.drew w.heap.size 35 #[.int .u64 g, .int .u64 n, .int .u8 p, .bool false, (.slice nA d.length nk)] from hO)
        obtain ⟨zq, hzq⟩ : ∃ zq, zq = zget s.Z (padT l, g) := ⟨_, rfl⟩
        have hzb : 0 ≤ zq ∧ zq ≤ 1048576 := by rw [hzq, hzg]; exact hz0
        have HZQ := Lib.hid hzq
        have hlkA := hSd.kz.zlook (x := (padT l, g)) hzok ⟨hpt, hg⟩
        rw [← hzq] at hlkA
        clear hzq
        have hBd : KB (fun g => g = sb ∨ g = lb ∨ g = zb ∨ g = tb ∨ lv.ownBlock = some g) w w21.drew := hB.drewN 1
        have hw21 : wrap64 (zq + ((d.length : Int) + 16)) = zq + ((d.length : Int) + 16) := by unfold wrap64; omega
        have hw21b : IntKind.i64.wrap (zq + ((d.length : Int) + 16)) = zq + ((d.length : Int) + 16) := by rw [IntKind.wrap_i64]; omega
        refine wp_region_held_drew (S := fun W => World.cell? W ⟨sb, 4, none⟩ = some (.map (some zb)) ∧ W.rangeAt xb 0 (lotC (padT l) g).toList ∧ W.rangeAt w.heap.size 0 #[.int .u64 g, .int .u64 n, .int .u8 p, .bool false, (.slice nA d.length nk)].toList) (by kernel_rfl) (by first | with_reducible exact ⟨c4, r21, q21⟩ | with_reducible exact ⟨k1, k2, k3⟩ | with_reducible exact ⟨l1, l2, l3⟩ | with_reducible exact ⟨m1, m2, m3⟩) (fun _ => ?_)
        refine wpAnyH_take (i := 0) (oi := ({ dst := some 114, op := Op.move (Operand.tmp 0), type := 25, pos := _, after := #[], guard := none } : Oper)) (v := ?_) rfl (by kernel_rfl) (by kernel_rfl) (by kernel_rfl) (fun _ _ _ h => h) (Or.inl ⟨by rfl, ?_⟩) (by first | with_reducible exact ⟨c4, r21, q21⟩ | with_reducible exact ⟨k1, k2, k3⟩ | with_reducible exact ⟨l1, l2, l3⟩ | with_reducible exact ⟨m1, m2, m3⟩) ?_
        rotate_left
        · intro w hSw
          try dsimp only at hSw
          go_simp
          try with_reducible rfl
        try simp only [Act.put, List.setIfInBounds_toArray, List.set_cons_zero, List.set_cons_succ]
        refine wpAnyH_take (i := 1) (oi := ({ dst := some 115, op := Op.nilCheck (Operand.tmp 114), type := 0, pos := _, after := #[{ on := 0, ground := Ground.data }], guard := none } : Oper)) (v := ?_) rfl (by kernel_rfl) (by kernel_rfl) (by kernel_rfl) (fun _ _ _ h => h) (Or.inl ⟨by rfl, ?_⟩) (by first | with_reducible exact ⟨c4, r21, q21⟩ | with_reducible exact ⟨k1, k2, k3⟩ | with_reducible exact ⟨l1, l2, l3⟩ | with_reducible exact ⟨m1, m2, m3⟩) ?_
        rotate_left
        · intro w hSw
          try dsimp only at hSw
          go_simp
          try with_reducible rfl
        try simp only [Act.put, List.setIfInBounds_toArray, List.set_cons_zero, List.set_cons_succ]
        refine wpAnyH_take (i := 2) (oi := ({ dst := some 116, op := Op.fieldAddr 81 (Operand.tmp 115) 4, type := 0, pos := _, after := #[{ on := 1, ground := Ground.data }], guard := none } : Oper)) (v := ?_) rfl (by kernel_rfl) (by kernel_rfl) (by kernel_rfl) (fun _ _ _ h => h) (Or.inl ⟨by rfl, ?_⟩) (by first | with_reducible exact ⟨c4, r21, q21⟩ | with_reducible exact ⟨k1, k2, k3⟩ | with_reducible exact ⟨l1, l2, l3⟩ | with_reducible exact ⟨m1, m2, m3⟩) ?_
        rotate_left
        · intro w hSw
          try dsimp only at hSw
          go_simp
          try with_reducible rfl
        try simp only [Act.put, List.setIfInBounds_toArray, List.set_cons_zero, List.set_cons_succ]
        refine wpAnyH_take (i := 3) (oi := ({ dst := some 117, op := Op.load 77 (Operand.tmp 116), type := 77, pos := _, after := #[{ on := 2, ground := Ground.data }], guard := none } : Oper)) (v := ?_) rfl (by kernel_rfl) (by kernel_rfl) (by kernel_rfl) (fun _ _ _ h => h) (Or.inl ⟨by rfl, ?_⟩) (by first | with_reducible exact ⟨c4, r21, q21⟩ | with_reducible exact ⟨k1, k2, k3⟩ | with_reducible exact ⟨l1, l2, l3⟩ | with_reducible exact ⟨m1, m2, m3⟩) ?_
        rotate_left
        · intro w hSw
          try dsimp only at hSw
          go_simp
          try with_reducible rfl
        try simp only [Act.put, List.setIfInBounds_toArray, List.set_cons_zero, List.set_cons_succ]
        refine wpAnyH_take (i := 4) (oi := ({ dst := some 118, op := Op.load 84 (Operand.tmp 11), type := 84, pos := _, after := #[], guard := none } : Oper)) (v := (.agg (lotC (padT l) g).toList.toArray)) rfl (by kernel_rfl) (by kernel_rfl) (by kernel_rfl) (fun _ _ _ h => h) (yieldsIf_load_mid (by rfl) 84 (.tmp 11) rfl xb 0 rfl (lotC (padT l) g).toList _ (fun _ h => h.2.1) Try.underlying84 rfl (by rw [info84, Array.length_toList, hls])) (by first | with_reducible exact ⟨c4, r21, q21⟩ | with_reducible exact ⟨k1, k2, k3⟩ | with_reducible exact ⟨l1, l2, l3⟩ | with_reducible exact ⟨m1, m2, m3⟩) ?_
        try simp only [Act.put, List.setIfInBounds_toArray, List.set_cons_zero, List.set_cons_succ]
        refine wpAnyH_take (i := 6) (oi := ({ dst := some 120, op := Op.load 35 (Operand.tmp 5), type := 35, pos := _, after := #[], guard := none } : Oper)) (v := (.agg #[.int .u64 g, .int .u64 n, .int .u8 p, .bool false, (.slice nA d.length nk)].toList.toArray)) rfl (by kernel_rfl) (by kernel_rfl) (by kernel_rfl) (fun _ _ _ h => h) (yieldsIf_load_mid (by rfl) 35 (.tmp 5) rfl w.heap.size 0 rfl #[.int .u64 g, .int .u64 n, .int .u8 p, .bool false, (.slice nA d.length nk)].toList _ (fun _ h => h.2.2) Try.underlying35 rfl (by rw [infoOB]; rfl)) (by first | with_reducible exact ⟨c4, r21, q21⟩ | with_reducible exact ⟨k1, k2, k3⟩ | with_reducible exact ⟨l1, l2, l3⟩ | with_reducible exact ⟨m1, m2, m3⟩) ?_
        try simp only [Act.put, List.setIfInBounds_toArray, List.set_cons_zero, List.set_cons_succ]
        refine wpAnyH_ready (rs := [5, 7]) (by kernel_rfl) (by simp) ?_
        refine (AllReadyH.cons (o := ({ dst := some 119, op := Op.lookup 77 (Operand.tmp 117) (Operand.tmp 118) false, type := 3, pos := _, after := #[{ on := 3, ground := Ground.data }, { on := 4, ground := Ground.data }], guard := none } : Oper)) rfl (fun K hK => ?_) (AllReadyH.cons (o := ({ dst := some 121, op := Op.call { callee := Callee.value (Operand.func 31), args := #[Operand.tmp 120], argTypes := #[35] }, type := 3, pos := _, after := #[{ on := 6, ground := Ground.data }], guard := none } : Oper)) rfl (fun K hK => ?_) AllReadyH.nil))
        · first | (with_reducible refine step_look rfl 77 (.tmp 117) (.tmp 118) false rfl (.map (some zb)) (.agg (lotC (padT l) g)) rfl rfl (.int .i64 zq) _ hlkA ?_) | (with_reducible refine step_look rfl 77 (.tmp 117) (.tmp 118) false rfl (.map (some zb)) (.agg (lotC (padT l) g)) rfl rfl (.int .i64 zq) _ hlkB ?_) | (with_reducible refine step_look rfl 77 (.tmp 117) (.tmp 118) false rfl (.map (some zb)) (.agg (lotC (padT l) g)) rfl rfl (.int .i64 zq) _ hlkC ?_)
          refine hK.out _ _ (by first | with_reducible exact ⟨c4, r21, q21⟩ | with_reducible exact ⟨k1, k2, k3⟩ | with_reducible exact ⟨l1, l2, l3⟩ | with_reducible exact ⟨m1, m2, m3⟩) (fun _ => ?_)
          clear hK K
          try simp only [Act.put, List.setIfInBounds_toArray, List.set_cons_zero, List.set_cons_succ]
          refine wpAnyH_ready (rs := [7]) (by kernel_rfl) (by simp) ?_
          refine (AllReadyH.cons (o := ({ dst := some 121, op := Op.call { callee := Callee.value (Operand.func 31), args := #[Operand.tmp 120], argTypes := #[35] }, type := 3, pos := _, after := #[{ on := 6, ground := Ground.data }], guard := none } : Oper)) rfl (fun K hK => ?_) AllReadyH.nil)
          go_simp
          go_at_call 31
          (with_reducible refine (cost_any g n p false nA d.length nk _ (by omega)).mono ?_)
          rintro e wp ⟨rfl, hbp⟩
          have hSp := hSd.kept hbp
          have hOp : Blk wp w.heap.size 35 #[.int .u64 g, .int .u64 n, .int .u8 p, .bool false, (.slice nA d.length nk)] := (show Blk w21.drew _ _ _ from hO).same hbp
          have hXp : Blk wp xb 84 (lotC (padT l) g) := (show Blk w21.drew _ _ _ from hX).same hbp
          have hVp : Blk wp kb 71 (keyC (padT l) g n) := (show Blk w21.drew _ _ _ from hV).same hbp
          have k1 : World.cell? wp ⟨sb, 4, none⟩ = some (.map (some zb)) := hSp.blk.cell 4
          have k2 := rows_at hXp
          have k3 := rows_at hOp
          have hlkB := hSp.kz.zlook (x := (padT l, g)) hzok ⟨hpt, hg⟩
          rw [← HZQ.out] at hlkB
          obtain ⟨st, wd, Z1, hrunE, hkm, hgr, hszd, hlkC, hst⟩ := hSp.kz.zentry (x := (padT l, g)) hzok ⟨hpt, hg⟩ hnd ((d.length : Int) + 16)
          rw [← HZQ.out] at hrunE hlkC hst
          obtain ⟨we, hrunS, hkme, hgre, hsze⟩ := hst wd rfl
          clear hst
          have hbd : Blk wd sb 81 (shC room s.used lb zb tb lv2) := hSp.blk.grown hgr (by simpa using blk_km_ne hSp.blk hSp.kz)
          have l1 : World.cell? wd ⟨sb, 4, none⟩ = some (.map (some zb)) := hbd.cell 4
          have hOd := hOp.grown hgr (by simpa using blk_km_ne hOp hSp.kz)
          have hXd := hXp.grown hgr (by simpa using blk_km_ne hXp hSp.kz)
          have l2 := rows_at hXd
          have l3 := rows_at hOd
          have hgrw := hgr.trans hgre
          have hSe : SX we B sb lb zb tb lv2 room s.used (s.E ++ [(⟨padT l, g, n, p, d⟩, .slice nA d.length nk)]) (zadd s.Z (padT l, g) ((d.length : Int) + 16)) T := (hSp.setZ hgrw hkme (fun z hz => by rcases zadd_mem hz with h | h | ⟨v, h, h2⟩; exact hzok z h; rw [h]; exact ⟨hpt, hg⟩; rw [h2]; exact ⟨hpt, hg⟩)).sx rfl
          have hOe := hOp.grown hgrw (by simpa using blk_km_ne hOp hSp.kz)
          have hXe := hXp.grown hgrw (by simpa using blk_km_ne hXp hSp.kz)
          have hVe := hVp.grown hgrw (by simpa using blk_km_ne hVp hSp.kz)
          have hBe : KB (fun g => g = sb ∨ g = lb ∨ g = zb ∨ g = tb ∨ lv.ownBlock = some g) w we := (hBd.trans (KB.of hbp)).grown hgrw (fun k hk => .inl (.inr (.inr (.inl (by simpa using hk.symm)))))
          have m1 : World.cell? we ⟨sb, 4, none⟩ = some (.map (some zb)) := hSe.blk.cell 4
          have m2 := rows_at hXe
          have m3 := rows_at hOe
          refine hK.out _ _ (by first | with_reducible exact ⟨c4, r21, q21⟩ | with_reducible exact ⟨k1, k2, k3⟩ | with_reducible exact ⟨l1, l2, l3⟩ | with_reducible exact ⟨m1, m2, m3⟩) (fun _ => ?_)
          clear hK K
          try simp only [Act.put, List.setIfInBounds_toArray, List.set_cons_zero, List.set_cons_succ]
          refine wpAnyH_take (i := 8) (oi := ({ dst := some 122, op := Op.binOp BinOp.add 3 (Operand.tmp 119) (Operand.tmp 121) 3, type := 3, pos := _, after := #[{ on := 5, ground := Ground.data }, { on := 7, ground := Ground.data }], guard := none } : Oper)) (v := ?_) rfl (by kernel_rfl) (by kernel_rfl) (by kernel_rfl) (fun _ _ _ h => h) (Or.inl ⟨by rfl, ?_⟩) (by first | with_reducible exact ⟨c4, r21, q21⟩ | with_reducible exact ⟨k1, k2, k3⟩ | with_reducible exact ⟨l1, l2, l3⟩ | with_reducible exact ⟨m1, m2, m3⟩) ?_
          rotate_left
          · intro w hSw
            try dsimp only at hSw
            go_simp
            try with_reducible rfl
          try simp only [Act.put, List.setIfInBounds_toArray, List.set_cons_zero, List.set_cons_succ]
          refine wpAnyH_ready (rs := [9]) (by kernel_rfl) (by simp) ?_
          refine (AllReadyH.cons (o := ({ dst := some 123, op := Op.mapEntry 77 (Operand.tmp 117) (Operand.tmp 118), type := 0, pos := _, after := #[{ on := 3, ground := Ground.data }, { on := 4, ground := Ground.data }, { on := 7, ground := Ground.chain }, { on := 0, ground := Ground.phase }, { on := 1, ground := Ground.phase }, { on := 2, ground := Ground.phase }, { on := 3, ground := Ground.phase }, { on := 4, ground := Ground.phase }, { on := 5, ground := Ground.textOnly Departure.mapOpAssignEntry }, { on := 6, ground := Ground.phase }, { on := 7, ground := Ground.phase }, { on := 8, ground := Ground.textOnly Departure.mapOpAssignEntry }], guard := none } : Oper)) rfl (fun K hK => ?_) AllReadyH.nil)
          refine step_mentry rfl 77 (.tmp 117) (.tmp 118) rfl (.map (some zb)) (.agg (lotC (padT l) g)) rfl rfl _ _ hrunE ?_
          refine hK.out _ _ (by first | with_reducible exact ⟨c4, r21, q21⟩ | with_reducible exact ⟨k1, k2, k3⟩ | with_reducible exact ⟨l1, l2, l3⟩ | with_reducible exact ⟨m1, m2, m3⟩) (fun _ => ?_)
          clear hK K
          try simp only [Act.put, List.setIfInBounds_toArray, List.set_cons_zero, List.set_cons_succ]
          refine wpAnyH_take (i := 10) (oi := ({ dst := some 124, op := Op.extract (Operand.tmp 123) 1, type := 3, pos := _, after := #[{ on := 9, ground := Ground.data }], guard := none } : Oper)) (v := ?_) rfl (by kernel_rfl) (by kernel_rfl) (by kernel_rfl) (fun _ _ _ h => h) (Or.inl ⟨by rfl, ?_⟩) (by first | with_reducible exact ⟨c4, r21, q21⟩ | with_reducible exact ⟨k1, k2, k3⟩ | with_reducible exact ⟨l1, l2, l3⟩ | with_reducible exact ⟨m1, m2, m3⟩) ?_
          rotate_left
          · intro w hSw
            try dsimp only at hSw
            go_simp
            try with_reducible rfl
          try simp only [Act.put, List.setIfInBounds_toArray, List.set_cons_zero, List.set_cons_succ]
          refine wpAnyH_ready (rs := [11]) (by kernel_rfl) (by simp) ?_
          refine (AllReadyH.cons (o := ({ dst := none, op := Op.entryStore 77 (Operand.tmp 117) (Operand.tmp 124) (Operand.tmp 122), type := 0, pos := _, after := #[{ on := 3, ground := Ground.data }, { on := 10, ground := Ground.data }, { on := 8, ground := Ground.data }, { on := 9, ground := Ground.chain }, { on := 0, ground := Ground.phase }, { on := 1, ground := Ground.phase }, { on := 2, ground := Ground.phase }, { on := 3, ground := Ground.phase }, { on := 4, ground := Ground.phase }, { on := 5, ground := Ground.phase }, { on := 6, ground := Ground.phase }, { on := 7, ground := Ground.phase }, { on := 8, ground := Ground.phase }, { on := 9, ground := Ground.phase }, { on := 10, ground := Ground.phase }], guard := none } : Oper)) rfl (fun K hK => ?_) AllReadyH.nil)
          refine step_mstore rfl 77 (.tmp 117) (.tmp 124) (.tmp 122) rfl (.map (some zb)) (.int .i64 st) (.int .i64 (zq + ((d.length : Int) + 16))) rfl rfl (by first | rfl | simp [Act.eval]) _ hrunS ?_
          refine hK.out _ _ (by first | with_reducible exact ⟨c4, r21, q21⟩ | with_reducible exact ⟨k1, k2, k3⟩ | with_reducible exact ⟨l1, l2, l3⟩ | with_reducible exact ⟨m1, m2, m3⟩) (fun _ => ?_)
          clear hK K
          try simp only [Act.put, List.setIfInBounds_toArray, List.set_cons_zero, List.set_cons_succ]
          refine wpAnyH_done (by kernel_rfl) ?_ _
          go_wp2_with fail
          go_meet
          exact ⟨hSe, hOe, hVe, hBe⟩
        · go_simp
          go_at_call 31
          (with_reducible refine (cost_any g n p false nA d.length nk _ (by omega)).mono ?_)
          rintro e wp ⟨rfl, hbp⟩
          have hSp := hSd.kept hbp
          have hOp : Blk wp w.heap.size 35 #[.int .u64 g, .int .u64 n, .int .u8 p, .bool false, (.slice nA d.length nk)] := (show Blk w21.drew _ _ _ from hO).same hbp
          have hXp : Blk wp xb 84 (lotC (padT l) g) := (show Blk w21.drew _ _ _ from hX).same hbp
          have hVp : Blk wp kb 71 (keyC (padT l) g n) := (show Blk w21.drew _ _ _ from hV).same hbp
          have k1 : World.cell? wp ⟨sb, 4, none⟩ = some (.map (some zb)) := hSp.blk.cell 4
          have k2 := rows_at hXp
          have k3 := rows_at hOp
          have hlkB := hSp.kz.zlook (x := (padT l, g)) hzok ⟨hpt, hg⟩
          rw [← HZQ.out] at hlkB
          obtain ⟨st, wd, Z1, hrunE, hkm, hgr, hszd, hlkC, hst⟩ := hSp.kz.zentry (x := (padT l, g)) hzok ⟨hpt, hg⟩ hnd ((d.length : Int) + 16)
          rw [← HZQ.out] at hrunE hlkC hst
          obtain ⟨we, hrunS, hkme, hgre, hsze⟩ := hst wd rfl
          clear hst
          have hbd : Blk wd sb 81 (shC room s.used lb zb tb lv2) := hSp.blk.grown hgr (by simpa using blk_km_ne hSp.blk hSp.kz)
          have l1 : World.cell? wd ⟨sb, 4, none⟩ = some (.map (some zb)) := hbd.cell 4
          have hOd := hOp.grown hgr (by simpa using blk_km_ne hOp hSp.kz)
          have hXd := hXp.grown hgr (by simpa using blk_km_ne hXp hSp.kz)
          have l2 := rows_at hXd
          have l3 := rows_at hOd
          have hgrw := hgr.trans hgre
          have hSe : SX we B sb lb zb tb lv2 room s.used (s.E ++ [(⟨padT l, g, n, p, d⟩, .slice nA d.length nk)]) (zadd s.Z (padT l, g) ((d.length : Int) + 16)) T := (hSp.setZ hgrw hkme (fun z hz => by rcases zadd_mem hz with h | h | ⟨v, h, h2⟩; exact hzok z h; rw [h]; exact ⟨hpt, hg⟩; rw [h2]; exact ⟨hpt, hg⟩)).sx rfl
          have hOe := hOp.grown hgrw (by simpa using blk_km_ne hOp hSp.kz)
          have hXe := hXp.grown hgrw (by simpa using blk_km_ne hXp hSp.kz)
          have hVe := hVp.grown hgrw (by simpa using blk_km_ne hVp hSp.kz)
          have hBe : KB (fun g => g = sb ∨ g = lb ∨ g = zb ∨ g = tb ∨ lv.ownBlock = some g) w we := (hBd.trans (KB.of hbp)).grown hgrw (fun k hk => .inl (.inr (.inr (.inl (by simpa using hk.symm)))))
          have m1 : World.cell? we ⟨sb, 4, none⟩ = some (.map (some zb)) := hSe.blk.cell 4
          have m2 := rows_at hXe
          have m3 := rows_at hOe
          refine hK.out _ _ (by first | with_reducible exact ⟨c4, r21, q21⟩ | with_reducible exact ⟨k1, k2, k3⟩ | with_reducible exact ⟨l1, l2, l3⟩ | with_reducible exact ⟨m1, m2, m3⟩) (fun _ => ?_)
          clear hK K
          try simp only [Act.put, List.setIfInBounds_toArray, List.set_cons_zero, List.set_cons_succ]
          refine wpAnyH_ready (rs := [5, 9]) (by kernel_rfl) (by simp) ?_
          refine (AllReadyH.cons (o := ({ dst := some 119, op := Op.lookup 77 (Operand.tmp 117) (Operand.tmp 118) false, type := 3, pos := _, after := #[{ on := 3, ground := Ground.data }, { on := 4, ground := Ground.data }], guard := none } : Oper)) rfl (fun K hK => ?_) (AllReadyH.cons (o := ({ dst := some 123, op := Op.mapEntry 77 (Operand.tmp 117) (Operand.tmp 118), type := 0, pos := _, after := #[{ on := 3, ground := Ground.data }, { on := 4, ground := Ground.data }, { on := 7, ground := Ground.chain }, { on := 0, ground := Ground.phase }, { on := 1, ground := Ground.phase }, { on := 2, ground := Ground.phase }, { on := 3, ground := Ground.phase }, { on := 4, ground := Ground.phase }, { on := 5, ground := Ground.textOnly Departure.mapOpAssignEntry }, { on := 6, ground := Ground.phase }, { on := 7, ground := Ground.phase }, { on := 8, ground := Ground.textOnly Departure.mapOpAssignEntry }], guard := none } : Oper)) rfl (fun K hK => ?_) AllReadyH.nil))
          · first | (with_reducible refine step_look rfl 77 (.tmp 117) (.tmp 118) false rfl (.map (some zb)) (.agg (lotC (padT l) g)) rfl rfl (.int .i64 zq) _ hlkA ?_) | (with_reducible refine step_look rfl 77 (.tmp 117) (.tmp 118) false rfl (.map (some zb)) (.agg (lotC (padT l) g)) rfl rfl (.int .i64 zq) _ hlkB ?_) | (with_reducible refine step_look rfl 77 (.tmp 117) (.tmp 118) false rfl (.map (some zb)) (.agg (lotC (padT l) g)) rfl rfl (.int .i64 zq) _ hlkC ?_)
            refine hK.out _ _ (by first | with_reducible exact ⟨c4, r21, q21⟩ | with_reducible exact ⟨k1, k2, k3⟩ | with_reducible exact ⟨l1, l2, l3⟩ | with_reducible exact ⟨m1, m2, m3⟩) (fun _ => ?_)
            clear hK K
            try simp only [Act.put, List.setIfInBounds_toArray, List.set_cons_zero, List.set_cons_succ]
            refine wpAnyH_take (i := 8) (oi := ({ dst := some 122, op := Op.binOp BinOp.add 3 (Operand.tmp 119) (Operand.tmp 121) 3, type := 3, pos := _, after := #[{ on := 5, ground := Ground.data }, { on := 7, ground := Ground.data }], guard := none } : Oper)) (v := ?_) rfl (by kernel_rfl) (by kernel_rfl) (by kernel_rfl) (fun _ _ _ h => h) (Or.inl ⟨by rfl, ?_⟩) (by first | with_reducible exact ⟨c4, r21, q21⟩ | with_reducible exact ⟨k1, k2, k3⟩ | with_reducible exact ⟨l1, l2, l3⟩ | with_reducible exact ⟨m1, m2, m3⟩) ?_
            rotate_left
            · intro w hSw
              try dsimp only at hSw
              go_simp
              try with_reducible rfl
            try simp only [Act.put, List.setIfInBounds_toArray, List.set_cons_zero, List.set_cons_succ]
            refine wpAnyH_ready (rs := [9]) (by kernel_rfl) (by simp) ?_
            refine (AllReadyH.cons (o := ({ dst := some 123, op := Op.mapEntry 77 (Operand.tmp 117) (Operand.tmp 118), type := 0, pos := _, after := #[{ on := 3, ground := Ground.data }, { on := 4, ground := Ground.data }, { on := 7, ground := Ground.chain }, { on := 0, ground := Ground.phase }, { on := 1, ground := Ground.phase }, { on := 2, ground := Ground.phase }, { on := 3, ground := Ground.phase }, { on := 4, ground := Ground.phase }, { on := 5, ground := Ground.textOnly Departure.mapOpAssignEntry }, { on := 6, ground := Ground.phase }, { on := 7, ground := Ground.phase }, { on := 8, ground := Ground.textOnly Departure.mapOpAssignEntry }], guard := none } : Oper)) rfl (fun K hK => ?_) AllReadyH.nil)
            refine step_mentry rfl 77 (.tmp 117) (.tmp 118) rfl (.map (some zb)) (.agg (lotC (padT l) g)) rfl rfl _ _ hrunE ?_
            refine hK.out _ _ (by first | with_reducible exact ⟨c4, r21, q21⟩ | with_reducible exact ⟨k1, k2, k3⟩ | with_reducible exact ⟨l1, l2, l3⟩ | with_reducible exact ⟨m1, m2, m3⟩) (fun _ => ?_)
            clear hK K
            try simp only [Act.put, List.setIfInBounds_toArray, List.set_cons_zero, List.set_cons_succ]
            refine wpAnyH_take (i := 10) (oi := ({ dst := some 124, op := Op.extract (Operand.tmp 123) 1, type := 3, pos := _, after := #[{ on := 9, ground := Ground.data }], guard := none } : Oper)) (v := ?_) rfl (by kernel_rfl) (by kernel_rfl) (by kernel_rfl) (fun _ _ _ h => h) (Or.inl ⟨by rfl, ?_⟩) (by first | with_reducible exact ⟨c4, r21, q21⟩ | with_reducible exact ⟨k1, k2, k3⟩ | with_reducible exact ⟨l1, l2, l3⟩ | with_reducible exact ⟨m1, m2, m3⟩) ?_
            rotate_left
            · intro w hSw
              try dsimp only at hSw
              go_simp
              try with_reducible rfl
            try simp only [Act.put, List.setIfInBounds_toArray, List.set_cons_zero, List.set_cons_succ]
            refine wpAnyH_ready (rs := [11]) (by kernel_rfl) (by simp) ?_
            refine (AllReadyH.cons (o := ({ dst := none, op := Op.entryStore 77 (Operand.tmp 117) (Operand.tmp 124) (Operand.tmp 122), type := 0, pos := _, after := #[{ on := 3, ground := Ground.data }, { on := 10, ground := Ground.data }, { on := 8, ground := Ground.data }, { on := 9, ground := Ground.chain }, { on := 0, ground := Ground.phase }, { on := 1, ground := Ground.phase }, { on := 2, ground := Ground.phase }, { on := 3, ground := Ground.phase }, { on := 4, ground := Ground.phase }, { on := 5, ground := Ground.phase }, { on := 6, ground := Ground.phase }, { on := 7, ground := Ground.phase }, { on := 8, ground := Ground.phase }, { on := 9, ground := Ground.phase }, { on := 10, ground := Ground.phase }], guard := none } : Oper)) rfl (fun K hK => ?_) AllReadyH.nil)
            refine step_mstore rfl 77 (.tmp 117) (.tmp 124) (.tmp 122) rfl (.map (some zb)) (.int .i64 st) (.int .i64 (zq + ((d.length : Int) + 16))) rfl rfl (by first | rfl | simp [Act.eval]) _ hrunS ?_
            refine hK.out _ _ (by first | with_reducible exact ⟨c4, r21, q21⟩ | with_reducible exact ⟨k1, k2, k3⟩ | with_reducible exact ⟨l1, l2, l3⟩ | with_reducible exact ⟨m1, m2, m3⟩) (fun _ => ?_)
            clear hK K
            try simp only [Act.put, List.setIfInBounds_toArray, List.set_cons_zero, List.set_cons_succ]
            refine wpAnyH_done (by kernel_rfl) ?_ _
            go_wp2_with fail
            go_meet
            exact ⟨hSe, hOe, hVe, hBe⟩
          · refine step_mentry rfl 77 (.tmp 117) (.tmp 118) rfl (.map (some zb)) (.agg (lotC (padT l) g)) rfl rfl _ _ hrunE ?_
            refine hK.out _ _ (by first | with_reducible exact ⟨c4, r21, q21⟩ | with_reducible exact ⟨k1, k2, k3⟩ | with_reducible exact ⟨l1, l2, l3⟩ | with_reducible exact ⟨m1, m2, m3⟩) (fun _ => ?_)
            clear hK K
            try simp only [Act.put, List.setIfInBounds_toArray, List.set_cons_zero, List.set_cons_succ]
            refine wpAnyH_take (i := 10) (oi := ({ dst := some 124, op := Op.extract (Operand.tmp 123) 1, type := 3, pos := _, after := #[{ on := 9, ground := Ground.data }], guard := none } : Oper)) (v := ?_) rfl (by kernel_rfl) (by kernel_rfl) (by kernel_rfl) (fun _ _ _ h => h) (Or.inl ⟨by rfl, ?_⟩) (by first | with_reducible exact ⟨c4, r21, q21⟩ | with_reducible exact ⟨k1, k2, k3⟩ | with_reducible exact ⟨l1, l2, l3⟩ | with_reducible exact ⟨m1, m2, m3⟩) ?_
            rotate_left
            · intro w hSw
              try dsimp only at hSw
              go_simp
              try with_reducible rfl
            try simp only [Act.put, List.setIfInBounds_toArray, List.set_cons_zero, List.set_cons_succ]
            refine wpAnyH_ready (rs := [5]) (by kernel_rfl) (by simp) ?_
            refine (AllReadyH.cons (o := ({ dst := some 119, op := Op.lookup 77 (Operand.tmp 117) (Operand.tmp 118) false, type := 3, pos := _, after := #[{ on := 3, ground := Ground.data }, { on := 4, ground := Ground.data }], guard := none } : Oper)) rfl (fun K hK => ?_) AllReadyH.nil)
            first | (with_reducible refine step_look rfl 77 (.tmp 117) (.tmp 118) false rfl (.map (some zb)) (.agg (lotC (padT l) g)) rfl rfl (.int .i64 zq) _ hlkA ?_) | (with_reducible refine step_look rfl 77 (.tmp 117) (.tmp 118) false rfl (.map (some zb)) (.agg (lotC (padT l) g)) rfl rfl (.int .i64 zq) _ hlkB ?_) | (with_reducible refine step_look rfl 77 (.tmp 117) (.tmp 118) false rfl (.map (some zb)) (.agg (lotC (padT l) g)) rfl rfl (.int .i64 zq) _ hlkC ?_)
            refine hK.out _ _ (by first | with_reducible exact ⟨c4, r21, q21⟩ | with_reducible exact ⟨k1, k2, k3⟩ | with_reducible exact ⟨l1, l2, l3⟩ | with_reducible exact ⟨m1, m2, m3⟩) (fun _ => ?_)
            clear hK K
            try simp only [Act.put, List.setIfInBounds_toArray, List.set_cons_zero, List.set_cons_succ]
            refine wpAnyH_take (i := 8) (oi := ({ dst := some 122, op := Op.binOp BinOp.add 3 (Operand.tmp 119) (Operand.tmp 121) 3, type := 3, pos := _, after := #[{ on := 5, ground := Ground.data }, { on := 7, ground := Ground.data }], guard := none } : Oper)) (v := ?_) rfl (by kernel_rfl) (by kernel_rfl) (by kernel_rfl) (fun _ _ _ h => h) (Or.inl ⟨by rfl, ?_⟩) (by first | with_reducible exact ⟨c4, r21, q21⟩ | with_reducible exact ⟨k1, k2, k3⟩ | with_reducible exact ⟨l1, l2, l3⟩ | with_reducible exact ⟨m1, m2, m3⟩) ?_
            rotate_left
            · intro w hSw
              try dsimp only at hSw
              go_simp
              try with_reducible rfl
            try simp only [Act.put, List.setIfInBounds_toArray, List.set_cons_zero, List.set_cons_succ]
            refine wpAnyH_ready (rs := [11]) (by kernel_rfl) (by simp) ?_
            refine (AllReadyH.cons (o := ({ dst := none, op := Op.entryStore 77 (Operand.tmp 117) (Operand.tmp 124) (Operand.tmp 122), type := 0, pos := _, after := #[{ on := 3, ground := Ground.data }, { on := 10, ground := Ground.data }, { on := 8, ground := Ground.data }, { on := 9, ground := Ground.chain }, { on := 0, ground := Ground.phase }, { on := 1, ground := Ground.phase }, { on := 2, ground := Ground.phase }, { on := 3, ground := Ground.phase }, { on := 4, ground := Ground.phase }, { on := 5, ground := Ground.phase }, { on := 6, ground := Ground.phase }, { on := 7, ground := Ground.phase }, { on := 8, ground := Ground.phase }, { on := 9, ground := Ground.phase }, { on := 10, ground := Ground.phase }], guard := none } : Oper)) rfl (fun K hK => ?_) AllReadyH.nil)
            refine step_mstore rfl 77 (.tmp 117) (.tmp 124) (.tmp 122) rfl (.map (some zb)) (.int .i64 st) (.int .i64 (zq + ((d.length : Int) + 16))) rfl rfl (by first | rfl | simp [Act.eval]) _ hrunS ?_
            refine hK.out _ _ (by first | with_reducible exact ⟨c4, r21, q21⟩ | with_reducible exact ⟨k1, k2, k3⟩ | with_reducible exact ⟨l1, l2, l3⟩ | with_reducible exact ⟨m1, m2, m3⟩) (fun _ => ?_)
            clear hK K
            try simp only [Act.put, List.setIfInBounds_toArray, List.set_cons_zero, List.set_cons_succ]
            refine wpAnyH_done (by kernel_rfl) ?_ _
            go_wp2_with fail
            go_meet
            exact ⟨hSe, hOe, hVe, hBe⟩
      clear hS hO hV hX hB hnd hzok
      obtain ⟨w22, hwe⟩ : ∃ x, x = wc := ⟨_, rfl⟩
      subst hwe
      obtain ⟨hS, hO, hV, hB⟩ := hcut
      go_upto_region 22 with fail
      go_cut [] (fun wc => SX wc B sb lb zb tb lv2 room (s.used + ((d.length : Int) + 16)) (s.E ++ [(⟨padT l, g, n, p, d⟩, .slice nA d.length nk)]) (zadd s.Z (padT l, g) ((d.length : Int) + 16)) T ∧ Blk wc w.heap.size 35 #[.int .u64 g, .int .u64 n, .int .u8 p, .bool false, (.slice nA d.length nk)] ∧ Blk wc kb 71 (keyC (padT l) g n) ∧ KB (fun g => g = sb ∨ g = lb ∨ g = zb ∨ g = tb ∨ lv.ownBlock = some g) w wc)
      case first =>
        have hSd : SX w22.drew B sb lb zb tb lv2 room s.used (s.E ++ [(⟨padT l, g, n, p, d⟩, .slice nA d.length nk)]) (zadd s.Z (padT l, g) ((d.length : Int) + 16)) T := { hS with blk := hS.blk }
        have c1 : World.cell? w22.drew ⟨sb, 1, none⟩ = some (.int .i64 s.used) := hSd.blk.cell 1
        have q22 := rows_at (show Blk w22.drew w.heap.size 35 #[.int .u64 g, .int .u64 n, .int .u8 p, .bool false, (.slice nA d.length nk)] from hO)
        have hBd : KB (fun g => g = sb ∨ g = lb ∨ g = zb ∨ g = tb ∨ lv.ownBlock = some g) w w22.drew := hB.drewN 1
        refine wp_region_held_drew (S := fun W => W.rangeAt w.heap.size 0 #[.int .u64 g, .int .u64 n, .int .u8 p, .bool false, (.slice nA d.length nk)].toList) (by kernel_rfl) (by first | with_reducible exact q22 | with_reducible exact k3 | with_reducible exact m3) (fun _ => ?_)
        refine wpAnyH_take (i := 0) (oi := ({ dst := some 125, op := Op.move (Operand.tmp 0), type := 25, pos := _, after := #[], guard := none } : Oper)) (v := ?_) rfl (by kernel_rfl) (by kernel_rfl) (by kernel_rfl) (fun _ _ _ h => h) (Or.inl ⟨by rfl, ?_⟩) (by first | with_reducible exact q22 | with_reducible exact k3 | with_reducible exact m3) ?_
        rotate_left
        · intro w hSw
          try dsimp only at hSw
          go_simp
          try with_reducible rfl
        try simp only [Act.put, List.setIfInBounds_toArray, List.set_cons_zero, List.set_cons_succ]
        refine wpAnyH_take (i := 1) (oi := ({ dst := some 126, op := Op.nilCheck (Operand.tmp 125), type := 0, pos := _, after := #[{ on := 0, ground := Ground.data }], guard := none } : Oper)) (v := ?_) rfl (by kernel_rfl) (by kernel_rfl) (by kernel_rfl) (fun _ _ _ h => h) (Or.inl ⟨by rfl, ?_⟩) (by first | with_reducible exact q22 | with_reducible exact k3 | with_reducible exact m3) ?_
        rotate_left
        · intro w hSw
          try dsimp only at hSw
          go_simp
          try with_reducible rfl
        try simp only [Act.put, List.setIfInBounds_toArray, List.set_cons_zero, List.set_cons_succ]
        refine wpAnyH_take (i := 2) (oi := ({ dst := some 127, op := Op.fieldAddr 81 (Operand.tmp 126) 1, type := 0, pos := _, after := #[{ on := 1, ground := Ground.data }], guard := none } : Oper)) (v := ?_) rfl (by kernel_rfl) (by kernel_rfl) (by kernel_rfl) (fun _ _ _ h => h) (Or.inl ⟨by rfl, ?_⟩) (by first | with_reducible exact q22 | with_reducible exact k3 | with_reducible exact m3) ?_
        rotate_left
        · intro w hSw
          try dsimp only at hSw
          go_simp
          try with_reducible rfl
        try simp only [Act.put, List.setIfInBounds_toArray, List.set_cons_zero, List.set_cons_succ]
        refine wpAnyH_take (i := 4) (oi := ({ dst := some 129, op := Op.load 35 (Operand.tmp 5), type := 35, pos := _, after := #[], guard := none } : Oper)) (v := (.agg #[.int .u64 g, .int .u64 n, .int .u8 p, .bool false, (.slice nA d.length nk)].toList.toArray)) rfl (by kernel_rfl) (by kernel_rfl) (by kernel_rfl) (fun _ _ _ h => h) (yieldsIf_load_mid (by rfl) 35 (.tmp 5) rfl w.heap.size 0 rfl #[.int .u64 g, .int .u64 n, .int .u8 p, .bool false, (.slice nA d.length nk)].toList _ (fun _ h => h) Try.underlying35 rfl (by rw [infoOB]; rfl)) (by first | with_reducible exact q22 | with_reducible exact k3 | with_reducible exact m3) ?_
        try simp only [Act.put, List.setIfInBounds_toArray, List.set_cons_zero, List.set_cons_succ]
        refine wpAnyH_ready (rs := [3, 5]) (by kernel_rfl) (by simp) ?_
        refine (AllReadyH.cons (o := ({ dst := some 128, op := Op.load 3 (Operand.tmp 127), type := 3, pos := _, after := #[{ on := 2, ground := Ground.data }], guard := none } : Oper)) rfl (fun K hK => ?_) (AllReadyH.cons (o := ({ dst := some 130, op := Op.call { callee := Callee.value (Operand.func 31), args := #[Operand.tmp 129], argTypes := #[35] }, type := 3, pos := _, after := #[{ on := 4, ground := Ground.data }], guard := none } : Oper)) rfl (fun K hK => ?_) AllReadyH.nil))
        · go_simp
          try with_reducible exact trivial
          refine hK.out _ _ (by first | with_reducible exact q22 | with_reducible exact k3 | with_reducible exact m3) (fun _ => ?_)
          clear hK K
          try simp only [Act.put, List.setIfInBounds_toArray, List.set_cons_zero, List.set_cons_succ]
          refine wpAnyH_ready (rs := [5]) (by kernel_rfl) (by simp) ?_
          refine (AllReadyH.cons (o := ({ dst := some 130, op := Op.call { callee := Callee.value (Operand.func 31), args := #[Operand.tmp 129], argTypes := #[35] }, type := 3, pos := _, after := #[{ on := 4, ground := Ground.data }], guard := none } : Oper)) rfl (fun K hK => ?_) AllReadyH.nil)
          go_simp
          go_at_call 31
          (with_reducible refine (cost_any g n p false nA d.length nk _ (by omega)).mono ?_)
          rintro e wp ⟨rfl, hbp⟩
          have hSp := hSd.kept hbp
          have g1 : World.cell? wp ⟨sb, 1, none⟩ = some (.int .i64 s.used) := hSp.blk.cell 1
          have f1 := hSp.blk.frozen 1
          have hOp : Blk wp w.heap.size 35 #[.int .u64 g, .int .u64 n, .int .u8 p, .bool false, (.slice nA d.length nk)] := (show Blk w22.drew _ _ _ from hO).same hbp
          have hVp : Blk wp kb 71 (keyC (padT l) g n) := (show Blk w22.drew _ _ _ from hV).same hbp
          have k3 := rows_at hOp
          have hOe : Blk (wp.setCell ⟨sb, 1, none⟩ (.int .i64 (s.used + ((d.length : Int) + 16)))) w.heap.size 35 #[.int .u64 g, .int .u64 n, .int .u8 p, .bool false, (.slice nA d.length nk)] := hOp.far (p := ⟨sb, 1, none⟩) (hOp.ne_ hSp.blk (by decide)) _
          have m3 := rows_at hOe
          refine hK.out _ _ (by first | with_reducible exact q22 | with_reducible exact k3 | with_reducible exact m3) (fun _ => ?_)
          clear hK K
          try simp only [Act.put, List.setIfInBounds_toArray, List.set_cons_zero, List.set_cons_succ]
          refine wpAnyH_take (i := 6) (oi := ({ dst := some 131, op := Op.binOp BinOp.add 3 (Operand.tmp 128) (Operand.tmp 130) 3, type := 3, pos := _, after := #[{ on := 3, ground := Ground.data }, { on := 5, ground := Ground.data }], guard := none } : Oper)) (v := ?_) rfl (by kernel_rfl) (by kernel_rfl) (by kernel_rfl) (fun _ _ _ h => h) (Or.inl ⟨by rfl, ?_⟩) (by first | with_reducible exact q22 | with_reducible exact k3 | with_reducible exact m3) ?_
          rotate_left
          · intro w hSw
            try dsimp only at hSw
            go_simp
            try with_reducible rfl
          try simp only [Act.put, List.setIfInBounds_toArray, List.set_cons_zero, List.set_cons_succ]
          refine wpAnyH_take (i := 7) (oi := ({ dst := some 132, op := Op.nilCheck (Operand.tmp 125), type := 0, pos := _, after := #[{ on := 0, ground := Ground.data }, { on := 0, ground := Ground.phase }, { on := 1, ground := Ground.phase }, { on := 2, ground := Ground.phase }, { on := 3, ground := Ground.phase }, { on := 4, ground := Ground.phase }, { on := 5, ground := Ground.phase }, { on := 6, ground := Ground.phase }], guard := none } : Oper)) (v := ?_) rfl (by kernel_rfl) (by kernel_rfl) (by kernel_rfl) (fun _ _ _ h => h) (Or.inl ⟨by rfl, ?_⟩) (by first | with_reducible exact q22 | with_reducible exact k3 | with_reducible exact m3) ?_
          rotate_left
          · intro w hSw
            try dsimp only at hSw
            go_simp
            try with_reducible rfl
          try simp only [Act.put, List.setIfInBounds_toArray, List.set_cons_zero, List.set_cons_succ]
          refine wpAnyH_take (i := 8) (oi := ({ dst := some 133, op := Op.fieldAddr 81 (Operand.tmp 132) 1, type := 0, pos := _, after := #[{ on := 7, ground := Ground.data }, { on := 0, ground := Ground.phase }, { on := 1, ground := Ground.phase }, { on := 2, ground := Ground.phase }, { on := 3, ground := Ground.phase }, { on := 4, ground := Ground.phase }, { on := 5, ground := Ground.phase }, { on := 6, ground := Ground.phase }], guard := none } : Oper)) (v := ?_) rfl (by kernel_rfl) (by kernel_rfl) (by kernel_rfl) (fun _ _ _ h => h) (Or.inl ⟨by rfl, ?_⟩) (by first | with_reducible exact q22 | with_reducible exact k3 | with_reducible exact m3) ?_
          rotate_left
          · intro w hSw
            try dsimp only at hSw
            go_simp
            try with_reducible rfl
          try simp only [Act.put, List.setIfInBounds_toArray, List.set_cons_zero, List.set_cons_succ]
          refine wpAnyH_ready (rs := [9]) (by kernel_rfl) (by simp) ?_
          refine (AllReadyH.cons (o := ({ dst := none, op := Op.store 3 (Operand.tmp 133) (Operand.tmp 131), type := 0, pos := _, after := #[{ on := 8, ground := Ground.data }, { on := 6, ground := Ground.data }, { on := 5, ground := Ground.chain }, { on := 0, ground := Ground.phase }, { on := 1, ground := Ground.phase }, { on := 2, ground := Ground.phase }, { on := 3, ground := Ground.phase }, { on := 4, ground := Ground.phase }, { on := 5, ground := Ground.phase }, { on := 6, ground := Ground.phase }], guard := none } : Oper)) rfl (fun K hK => ?_) AllReadyH.nil)
          go_simp
          try with_reducible exact trivial
          refine hK.out _ _ (by first | with_reducible exact q22 | with_reducible exact k3 | with_reducible exact m3) (fun _ => ?_)
          clear hK K
          try simp only [Act.put, List.setIfInBounds_toArray, List.set_cons_zero, List.set_cons_succ]
          refine wpAnyH_done (by kernel_rfl) ?_ _
          go_wp2_with fail
          go_meet
          exact ⟨hSp.setU _, hOe, hVp.far (p := ⟨sb, 1, none⟩) (hVp.ne_ hSp.blk (by decide)) _, (hBd.trans (KB.of hbp)).set (p := ⟨sb, 1, none⟩) (.inl rfl) _⟩
        · go_simp
          go_at_call 31
          (with_reducible refine (cost_any g n p false nA d.length nk _ (by omega)).mono ?_)
          rintro e wp ⟨rfl, hbp⟩
          have hSp := hSd.kept hbp
          have g1 : World.cell? wp ⟨sb, 1, none⟩ = some (.int .i64 s.used) := hSp.blk.cell 1
          have f1 := hSp.blk.frozen 1
          have hOp : Blk wp w.heap.size 35 #[.int .u64 g, .int .u64 n, .int .u8 p, .bool false, (.slice nA d.length nk)] := (show Blk w22.drew _ _ _ from hO).same hbp
          have hVp : Blk wp kb 71 (keyC (padT l) g n) := (show Blk w22.drew _ _ _ from hV).same hbp
          have k3 := rows_at hOp
          have hOe : Blk (wp.setCell ⟨sb, 1, none⟩ (.int .i64 (s.used + ((d.length : Int) + 16)))) w.heap.size 35 #[.int .u64 g, .int .u64 n, .int .u8 p, .bool false, (.slice nA d.length nk)] := hOp.far (p := ⟨sb, 1, none⟩) (hOp.ne_ hSp.blk (by decide)) _
          have m3 := rows_at hOe
          refine hK.out _ _ (by first | with_reducible exact q22 | with_reducible exact k3 | with_reducible exact m3) (fun _ => ?_)
          clear hK K
          try simp only [Act.put, List.setIfInBounds_toArray, List.set_cons_zero, List.set_cons_succ]
          refine wpAnyH_ready (rs := [3]) (by kernel_rfl) (by simp) ?_
          refine (AllReadyH.cons (o := ({ dst := some 128, op := Op.load 3 (Operand.tmp 127), type := 3, pos := _, after := #[{ on := 2, ground := Ground.data }], guard := none } : Oper)) rfl (fun K hK => ?_) AllReadyH.nil)
          go_simp
          try with_reducible exact trivial
          refine hK.out _ _ (by first | with_reducible exact q22 | with_reducible exact k3 | with_reducible exact m3) (fun _ => ?_)
          clear hK K
          try simp only [Act.put, List.setIfInBounds_toArray, List.set_cons_zero, List.set_cons_succ]
          refine wpAnyH_take (i := 6) (oi := ({ dst := some 131, op := Op.binOp BinOp.add 3 (Operand.tmp 128) (Operand.tmp 130) 3, type := 3, pos := _, after := #[{ on := 3, ground := Ground.data }, { on := 5, ground := Ground.data }], guard := none } : Oper)) (v := ?_) rfl (by kernel_rfl) (by kernel_rfl) (by kernel_rfl) (fun _ _ _ h => h) (Or.inl ⟨by rfl, ?_⟩) (by first | with_reducible exact q22 | with_reducible exact k3 | with_reducible exact m3) ?_
          rotate_left
          · intro w hSw
            try dsimp only at hSw
            go_simp
            try with_reducible rfl
          try simp only [Act.put, List.setIfInBounds_toArray, List.set_cons_zero, List.set_cons_succ]
          refine wpAnyH_take (i := 7) (oi := ({ dst := some 132, op := Op.nilCheck (Operand.tmp 125), type := 0, pos := _, after := #[{ on := 0, ground := Ground.data }, { on := 0, ground := Ground.phase }, { on := 1, ground := Ground.phase }, { on := 2, ground := Ground.phase }, { on := 3, ground := Ground.phase }, { on := 4, ground := Ground.phase }, { on := 5, ground := Ground.phase }, { on := 6, ground := Ground.phase }], guard := none } : Oper)) (v := ?_) rfl (by kernel_rfl) (by kernel_rfl) (by kernel_rfl) (fun _ _ _ h => h) (Or.inl ⟨by rfl, ?_⟩) (by first | with_reducible exact q22 | with_reducible exact k3 | with_reducible exact m3) ?_
          rotate_left
          · intro w hSw
            try dsimp only at hSw
            go_simp
            try with_reducible rfl
          try simp only [Act.put, List.setIfInBounds_toArray, List.set_cons_zero, List.set_cons_succ]
          refine wpAnyH_take (i := 8) (oi := ({ dst := some 133, op := Op.fieldAddr 81 (Operand.tmp 132) 1, type := 0, pos := _, after := #[{ on := 7, ground := Ground.data }, { on := 0, ground := Ground.phase }, { on := 1, ground := Ground.phase }, { on := 2, ground := Ground.phase }, { on := 3, ground := Ground.phase }, { on := 4, ground := Ground.phase }, { on := 5, ground := Ground.phase }, { on := 6, ground := Ground.phase }], guard := none } : Oper)) (v := ?_) rfl (by kernel_rfl) (by kernel_rfl) (by kernel_rfl) (fun _ _ _ h => h) (Or.inl ⟨by rfl, ?_⟩) (by first | with_reducible exact q22 | with_reducible exact k3 | with_reducible exact m3) ?_
          rotate_left
          · intro w hSw
            try dsimp only at hSw
            go_simp
            try with_reducible rfl
          try simp only [Act.put, List.setIfInBounds_toArray, List.set_cons_zero, List.set_cons_succ]
          refine wpAnyH_ready (rs := [9]) (by kernel_rfl) (by simp) ?_
          refine (AllReadyH.cons (o := ({ dst := none, op := Op.store 3 (Operand.tmp 133) (Operand.tmp 131), type := 0, pos := _, after := #[{ on := 8, ground := Ground.data }, { on := 6, ground := Ground.data }, { on := 5, ground := Ground.chain }, { on := 0, ground := Ground.phase }, { on := 1, ground := Ground.phase }, { on := 2, ground := Ground.phase }, { on := 3, ground := Ground.phase }, { on := 4, ground := Ground.phase }, { on := 5, ground := Ground.phase }, { on := 6, ground := Ground.phase }], guard := none } : Oper)) rfl (fun K hK => ?_) AllReadyH.nil)
          go_simp
          try with_reducible exact trivial
          refine hK.out _ _ (by first | with_reducible exact q22 | with_reducible exact k3 | with_reducible exact m3) (fun _ => ?_)
          clear hK K
          try simp only [Act.put, List.setIfInBounds_toArray, List.set_cons_zero, List.set_cons_succ]
          refine wpAnyH_done (by kernel_rfl) ?_ _
          go_wp2_with fail
          go_meet
          exact ⟨hSp.setU _, hOe, hVp.far (p := ⟨sb, 1, none⟩) (hVp.ne_ hSp.blk (by decide)) _, (hBd.trans (KB.of hbp)).set (p := ⟨sb, 1, none⟩) (.inl rfl) _⟩
      clear hS hO hV hB
      obtain ⟨w23, hwe⟩ : ∃ x, x = wc := ⟨_, rfl⟩
      subst hwe
      obtain ⟨hS, hO, hV, hB⟩ := hcut
      have hSd : SX w23.drew B sb lb zb tb lv2 room (s.used + ((d.length : Int) + 16)) (s.E ++ [(⟨padT l, g, n, p, d⟩, .slice nA d.length nk)]) (zadd s.Z (padT l, g) ((d.length : Int) + 16)) T := { hS with blk := hS.blk }
      obtain ⟨ta, tn, tf, hlk, htf⟩ := hSd.kt.tlook2 hpt
      have HLK := Lib.hid hlk
      have HTF := Lib.hid htf
      clear hlk htf
      have c5 : World.cell? w23.drew ⟨sb, 5, none⟩ = some (.map (some tb)) := hSd.blk.cell 5
      have r23 := key_range (show Blk w23.drew kb 71 (keyC (padT l) g n) from hV)
      have HK23 : Hid (∀ W, Below w23.heap.size w23 W → World.cell? W.drew ⟨sb, 5, none⟩ = some (.map (some tb)) ∧ W.drew.rangeAt kb 0 ((padT l).map (Value.int .u8)) ∧ KM Try.prog 82 W.drew tb (T.map tkv)) := Lib.hid (fun W hW => by
        have h1 := hS.kept hW
        have h2 := hV.same hW
        exact ⟨h1.blk.cell 5, key_range (show Blk W.drew kb 71 (keyC (padT l) g n) from h2), h1.kt⟩)
      have hba : Below w23.heap.size w23 (w23.alloc (.cells #[.int .u64 0, .int .u64 0] 33)) := (Below.refl _ _).alloc (Nat.le_refl _) _
      have hbb : Below w23.heap.size w23 (w23.alloc (.cells #[.int .u64 ta, .int .u64 tn] 33)) := (Below.refl _ _).alloc (Nat.le_refl _) _
      have hbc : Below w23.heap.size w23 (w23.alloc (.cells #[.int .u64 ta, .int .u64 tn] 33)).drew := below_drewN hbb 1
      go_upto_region 23 with fail
      refine wp_region_held_drew (S := fun W => World.cell? W ⟨sb, 5, none⟩ = some (.map (some tb)) ∧ W.rangeAt kb 0 ((padT l).map (Value.int .u8)) ∧ KM Try.prog 82 W tb (T.map tkv)) (by kernel_rfl) (by first | with_reducible exact ⟨c5, r23, hSd.kt⟩ | with_reducible exact HK23.out _ hba | with_reducible exact HK23.out _ hbb) (fun _ => ?_)
      refine wpAnyH_take (i := 0) (oi := ({ dst := some 135, op := Op.move (Operand.tmp 0), type := 25, pos := _, after := #[], guard := none } : Oper)) (v := ?_) rfl (by kernel_rfl) (by kernel_rfl) (by kernel_rfl) (fun _ _ _ h => h) (Or.inl ⟨by rfl, ?_⟩) (by first | with_reducible exact ⟨c5, r23, hSd.kt⟩ | with_reducible exact HK23.out _ hba | with_reducible exact HK23.out _ hbb) ?_
      rotate_left
      · intro w hSw
        try dsimp only at hSw
        go_simp
        try with_reducible rfl
      try simp only [Act.put, List.setIfInBounds_toArray, List.set_cons_zero, List.set_cons_succ]
      refine wpAnyH_take (i := 1) (oi := ({ dst := some 136, op := Op.nilCheck (Operand.tmp 135), type := 0, pos := _, after := #[{ on := 0, ground := Ground.data }], guard := none } : Oper)) (v := ?_) rfl (by kernel_rfl) (by kernel_rfl) (by kernel_rfl) (fun _ _ _ h => h) (Or.inl ⟨by rfl, ?_⟩) (by first | with_reducible exact ⟨c5, r23, hSd.kt⟩ | with_reducible exact HK23.out _ hba | with_reducible exact HK23.out _ hbb) ?_
      rotate_left
      · intro w hSw
        try dsimp only at hSw
        go_simp
        try with_reducible rfl
      try simp only [Act.put, List.setIfInBounds_toArray, List.set_cons_zero, List.set_cons_succ]
      refine wpAnyH_take (i := 2) (oi := ({ dst := some 137, op := Op.fieldAddr 81 (Operand.tmp 136) 5, type := 0, pos := _, after := #[{ on := 1, ground := Ground.data }], guard := none } : Oper)) (v := ?_) rfl (by kernel_rfl) (by kernel_rfl) (by kernel_rfl) (fun _ _ _ h => h) (Or.inl ⟨by rfl, ?_⟩) (by first | with_reducible exact ⟨c5, r23, hSd.kt⟩ | with_reducible exact HK23.out _ hba | with_reducible exact HK23.out _ hbb) ?_
      rotate_left
      · intro w hSw
        try dsimp only at hSw
        go_simp
        try with_reducible rfl
      try simp only [Act.put, List.setIfInBounds_toArray, List.set_cons_zero, List.set_cons_succ]
      refine wpAnyH_take (i := 3) (oi := ({ dst := some 138, op := Op.load 78 (Operand.tmp 137), type := 78, pos := _, after := #[{ on := 2, ground := Ground.data }], guard := none } : Oper)) (v := ?_) rfl (by kernel_rfl) (by kernel_rfl) (by kernel_rfl) (fun _ _ _ h => h) (Or.inl ⟨by rfl, ?_⟩) (by first | with_reducible exact ⟨c5, r23, hSd.kt⟩ | with_reducible exact HK23.out _ hba | with_reducible exact HK23.out _ hbb) ?_
      rotate_left
      · intro w hSw
        try dsimp only at hSw
        go_simp
        try with_reducible rfl
      try simp only [Act.put, List.setIfInBounds_toArray, List.set_cons_zero, List.set_cons_succ]
      refine wpAnyH_take (i := 4) (oi := ({ dst := some 139, op := Op.fieldAddr 71 (Operand.tmp 7) 0, type := 0, pos := _, after := #[], guard := none } : Oper)) (v := ?_) rfl (by kernel_rfl) (by kernel_rfl) (by kernel_rfl) (fun _ _ _ h => h) (Or.inl ⟨by rfl, ?_⟩) (by first | with_reducible exact ⟨c5, r23, hSd.kt⟩ | with_reducible exact HK23.out _ hba | with_reducible exact HK23.out _ hbb) ?_
      rotate_left
      · intro w hSw
        try dsimp only at hSw
        go_simp
        try with_reducible rfl
      try simp only [Act.put, List.setIfInBounds_toArray, List.set_cons_zero, List.set_cons_succ]
      refine wpAnyH_take (i := 5) (oi := ({ dst := some 140, op := Op.load 69 (Operand.tmp 139), type := 69, pos := _, after := #[{ on := 4, ground := Ground.data }], guard := none } : Oper)) (v := (.agg ((padT l).map (Value.int .u8)).toArray)) rfl (by kernel_rfl) (by kernel_rfl) (by kernel_rfl) (fun _ _ _ h => h) (yieldsIf_load_mid (by rfl) 69 (.tmp 139) rfl kb 0 rfl ((padT l).map (Value.int .u8)) _ (fun _ h => h.2.1) Try.underlying69 rfl (by rw [info69, List.length_map, hpl])) (by first | with_reducible exact ⟨c5, r23, hSd.kt⟩ | with_reducible exact HK23.out _ hba | with_reducible exact HK23.out _ hbb) ?_
      try simp only [Act.put, List.setIfInBounds_toArray, List.set_cons_zero, List.set_cons_succ]
      refine wpAnyH_take (i := 6) (oi := ({ dst := some 141, op := Op.lookup 78 (Operand.tmp 138) (Operand.tmp 140) true, type := 57, pos := _, after := #[{ on := 3, ground := Ground.data }, { on := 5, ground := Ground.data }], guard := none } : Oper)) (v := (.tuple #[.agg #[.int .u64 ta, .int .u64 tn], .bool tf])) rfl (by kernel_rfl) (by kernel_rfl) (by kernel_rfl) (fun _ _ _ h => h) (yieldsIf_look (by rfl) 78 (.tmp 138) (.tmp 140) true rfl (.map (some tb)) (.agg (trkC (padT l))) rfl rfl _ (fun W h => HLK.out W h.2.2)) (by first | with_reducible exact ⟨c5, r23, hSd.kt⟩ | with_reducible exact HK23.out _ hba | with_reducible exact HK23.out _ hbb) ?_
      try simp only [Act.put, List.setIfInBounds_toArray, List.set_cons_zero, List.set_cons_succ]
      refine wpAnyH_take (i := 7) (oi := ({ dst := some 134, op := Op.move (Operand.tmp 141), type := 57, pos := _, after := #[{ on := 6, ground := Ground.data }], guard := none } : Oper)) (v := ?_) rfl (by kernel_rfl) (by kernel_rfl) (by kernel_rfl) (fun _ _ _ h => h) (Or.inl ⟨by rfl, ?_⟩) (by first | with_reducible exact ⟨c5, r23, hSd.kt⟩ | with_reducible exact HK23.out _ hba | with_reducible exact HK23.out _ hbb) ?_
      rotate_left
      · intro w hSw
        try dsimp only at hSw
        go_simp
        try with_reducible rfl
      try simp only [Act.put, List.setIfInBounds_toArray, List.set_cons_zero, List.set_cons_succ]
      refine wpAnyH_take (i := 8) (oi := ({ dst := some 142, op := Op.extract (Operand.tmp 134) 0, type := 33, pos := _, after := #[{ on := 7, ground := Ground.data }], guard := none } : Oper)) (v := ?_) rfl (by kernel_rfl) (by kernel_rfl) (by kernel_rfl) (fun _ _ _ h => h) (Or.inl ⟨by rfl, ?_⟩) (by first | with_reducible exact ⟨c5, r23, hSd.kt⟩ | with_reducible exact HK23.out _ hba | with_reducible exact HK23.out _ hbb) ?_
      rotate_left
      · intro w hSw
        try dsimp only at hSw
        go_simp
        try with_reducible rfl
      try simp only [Act.put, List.setIfInBounds_toArray, List.set_cons_zero, List.set_cons_succ]
      refine wpAnyH_take (i := 9) (oi := ({ dst := some 143, op := Op.extract (Operand.tmp 134) 1, type := 4, pos := _, after := #[{ on := 7, ground := Ground.data }, { on := 11, ground := Ground.gcOnly Departure.lateStores }], guard := none } : Oper)) (v := ?_) rfl (by kernel_rfl) (by kernel_rfl) (by kernel_rfl) (fun _ _ _ h => h) (Or.inl ⟨by rfl, ?_⟩) (by first | with_reducible exact ⟨c5, r23, hSd.kt⟩ | with_reducible exact HK23.out _ hba | with_reducible exact HK23.out _ hbb) ?_
      rotate_left
      · intro w hSw
        try dsimp only at hSw
        go_simp
        try with_reducible rfl
      try simp only [Act.put, List.setIfInBounds_toArray, List.set_cons_zero, List.set_cons_succ]
      refine wpAnyH_ready (rs := [10]) (by kernel_rfl) (by simp) ?_
      refine AllReadyH.cons (o := ({ dst := some 13, op := Op.alloc 33, type := 0, pos := _, after := #[], guard := none } : Oper)) rfl (fun K hK => ?_) AllReadyH.nil
      go_simp
      refine hK.out _ _ (by first | with_reducible exact ⟨c5, r23, hSd.kt⟩ | with_reducible exact HK23.out _ hba | with_reducible exact HK23.out _ hbb) (fun _ => ?_)
      clear hK K
      try simp only [Act.put, List.setIfInBounds_toArray, List.set_cons_zero, List.set_cons_succ]
      refine wpAnyH_ready (rs := [11]) (by kernel_rfl) (by simp) ?_
      refine AllReadyH.cons (o := ({ dst := none, op := Op.store 33 (Operand.tmp 13) (Operand.tmp 142), type := 0, pos := _, after := #[{ on := 10, ground := Ground.data }, { on := 8, ground := Ground.data }, { on := 0, ground := Ground.phase }, { on := 1, ground := Ground.phase }, { on := 2, ground := Ground.phase }, { on := 3, ground := Ground.phase }, { on := 4, ground := Ground.phase }, { on := 5, ground := Ground.phase }, { on := 6, ground := Ground.phase }, { on := 7, ground := Ground.phase }, { on := 8, ground := Ground.phase }, { on := 9, ground := Ground.textOnly Departure.lateStores }, { on := 10, ground := Ground.phase }], guard := none } : Oper)) rfl (fun K hK => ?_) AllReadyH.nil
      go_simp
      refine hK.out _ _ (by first | with_reducible exact ⟨c5, r23, hSd.kt⟩ | with_reducible exact HK23.out _ hba | with_reducible exact HK23.out _ hbb) (fun _ => ?_)
      clear hK K
      try simp only [Act.put, List.setIfInBounds_toArray, List.set_cons_zero, List.set_cons_succ]
      refine wpAnyH_take (i := 12) (oi := ({ dst := some 14, op := Op.assign (Operand.tmp 143), type := 4, pos := _, after := #[{ on := 9, ground := Ground.data }, { on := 11, ground := Ground.chain }, { on := 0, ground := Ground.phase }, { on := 1, ground := Ground.phase }, { on := 2, ground := Ground.phase }, { on := 3, ground := Ground.phase }, { on := 4, ground := Ground.phase }, { on := 5, ground := Ground.phase }, { on := 6, ground := Ground.phase }, { on := 7, ground := Ground.phase }, { on := 8, ground := Ground.phase }, { on := 9, ground := Ground.phase }, { on := 10, ground := Ground.phase }, { on := 11, ground := Ground.phase }], guard := none } : Oper)) (v := ?_) rfl (by kernel_rfl) (by kernel_rfl) (by kernel_rfl) (fun _ _ _ h => h) (Or.inl ⟨by rfl, ?_⟩) (by first | with_reducible exact ⟨c5, r23, hSd.kt⟩ | with_reducible exact HK23.out _ hba | with_reducible exact HK23.out _ hbb) ?_
      rotate_left
      · intro w hSw
        try dsimp only at hSw
        go_simp
        try with_reducible rfl
      try simp only [Act.put, List.setIfInBounds_toArray, List.set_cons_zero, List.set_cons_succ]
      refine wpAnyH_done (by kernel_rfl) ?_ _
      go_upto_region 24 with fail
      refine wp_world (fun wz => SX wz B sb lb zb tb lv2 room (s.used + ((d.length : Int) + 16)) (s.E ++ [(⟨padT l, g, n, p, d⟩, .slice nA d.length nk)]) (zadd s.Z (padT l, g) ((d.length : Int) + 16)) T ∧ Blk wz w.heap.size 35 #[.int .u64 g, .int .u64 n, .int .u8 p, .bool false, (.slice nA d.length nk)] ∧ Blk wz kb 71 (keyC (padT l) g n) ∧ Blk wz w23.heap.size 33 #[.int .u64 ta, .int .u64 tn] ∧ KB (fun g => g = sb ∨ g = lb ∨ g = zb ∨ g = tb ∨ lv.ownBlock = some g) w wz) ⟨hS.kept hbc, hO.same hbc, hV.same hbc, (show Blk (w23.alloc (.cells #[.int .u64 ta, .int .u64 tn] 33)).drew w23.heap.size 33 #[.int .u64 ta, .int .u64 tn] from Blk.new w23 33 #[.int .u64 ta, .int .u64 tn]), hB.trans (KB.of hbc)⟩ ?_
      clear hS hO hV hB hSd c5 r23 HK23 hba hbb hbc HLK
      obtain ⟨pb, hpb⟩ : ∃ pb, pb = w23.heap.size := ⟨_, rfl⟩
      rw [← hpb]
      clear hpb
      rintro w24 ⟨hS, hO, hV, hP, hB⟩
      have o0 : World.cell? w24 ⟨w.heap.size, 0, none⟩ = some (.int .u64 g) := hO.cell 0
      have o1 : World.cell? w24 ⟨w.heap.size, 1, none⟩ = some (.int .u64 n) := hO.cell 1
      have p0 : World.cell? w24 ⟨pb, 0, none⟩ = some (.int .u64 ta) := hP.cell 0
      have p1 : World.cell? w24 ⟨pb, 1, none⟩ = some (.int .u64 tn) := hP.cell 1
      cases tf with
      | false =>
        have htn := HTF.out.resolve_right (fun h => by cases h.1)
        have HTN := Lib.hid htn.2
        clear htn HTF
        go_upto_region 25 with fail
        have hSa := hS
        have hOa := hO
        have hVa := hV
        have hBa := hB
        clear o0 o1 p0 p1 hS hO hV hP hB
        refine wp_world (fun wz => SX wz B sb lb zb tb lv2 room (s.used + ((d.length : Int) + 16)) (s.E ++ [(⟨padT l, g, n, p, d⟩, .slice nA d.length nk)]) (zadd s.Z (padT l, g) ((d.length : Int) + 16)) T ∧ Blk wz w.heap.size 35 #[.int .u64 g, .int .u64 n, .int .u8 p, .bool false, (.slice nA d.length nk)] ∧ Blk wz kb 71 (keyC (padT l) g n) ∧ KB (fun g => g = sb ∨ g = lb ∨ g = zb ∨ g = tb ∨ lv.ownBlock = some g) w wz) ⟨hSa, hOa, hVa, hBa⟩ ?_
        clear hSa hOa hVa hBa
        rintro w25 ⟨hS, hO, hV, hB⟩
        have hSd : SX w25.drew B sb lb zb tb lv2 room (s.used + ((d.length : Int) + 16)) (s.E ++ [(⟨padT l, g, n, p, d⟩, .slice nA d.length nk)]) (zadd s.Z (padT l, g) ((d.length : Int) + 16)) T := { hS with blk := hS.blk }
        have hVd : Blk w25.drew kb 71 (keyC (padT l) g n) := hV
        have hOd : Blk w25.drew w.heap.size 35 #[.int .u64 g, .int .u64 n, .int .u8 p, .bool false, (.slice nA d.length nk)] := hO
        have c5 : World.cell? w25.drew ⟨sb, 5, none⟩ = some (.map (some tb)) := hSd.blk.cell 5
        have r25 := key_range hVd
        have e0 : World.cell? w25.drew ⟨w.heap.size, 0, none⟩ = some (.int .u64 g) := hOd.cell 0
        have e1 : World.cell? w25.drew ⟨w.heap.size, 1, none⟩ = some (.int .u64 n) := hOd.cell 1
        obtain ⟨w26, hrun25, hk25, hg25, _⟩ := hSd.kt.tset hpt g n
        have hS26 : SX w26 B sb lb zb tb lv2 room (s.used + ((d.length : Int) + 16)) (s.E ++ [(⟨padT l, g, n, p, d⟩, .slice nA d.length nk)]) (zadd s.Z (padT l, g) ((d.length : Int) + 16)) (tput T (padT l) g n) := (hSd.sy.setT hg25 hk25).sx rfl
        have hV26 := hVd.grown hg25 (by simpa using blk_km_ne hVd hSd.kt)
        have hO26 := hOd.grown hg25 (by simpa using blk_km_ne hOd hSd.kt)
        have d5 : World.cell? w26 ⟨sb, 5, none⟩ = some (.map (some tb)) := hS26.blk.cell 5
        have s25 := key_range hV26
        have g0 : World.cell? w26 ⟨w.heap.size, 0, none⟩ = some (.int .u64 g) := hO26.cell 0
        have g1 : World.cell? w26 ⟨w.heap.size, 1, none⟩ = some (.int .u64 n) := hO26.cell 1
        have hB26 : KB (fun g => g = sb ∨ g = lb ∨ g = zb ∨ g = tb ∨ lv.ownBlock = some g) w w26 := (hB.drewN 1).grown hg25 (fun k hk => .inl (.inr (.inr (.inr (.inl (by simpa using hk.symm))))))
        clear hk25 hg25
        refine wp_region_held_drew (S := fun W => World.cell? W ⟨sb, 5, none⟩ = some (.map (some tb)) ∧ W.rangeAt kb 0 ((padT l).map (Value.int .u8)) ∧ World.cell? W ⟨w.heap.size, 0, none⟩ = some (.int .u64 g) ∧ World.cell? W ⟨w.heap.size, 1, none⟩ = some (.int .u64 n)) (by kernel_rfl) (by first | with_reducible exact ⟨c5, r25, e0, e1⟩ | with_reducible exact ⟨d5, s25, g0, g1⟩) (fun _ => ?_)
        refine wpAnyH_take (i := 0) (oi := ({ dst := some 152, op := Op.move (Operand.tmp 0), type := 25, pos := _, after := #[], guard := none } : Oper)) (v := ?_) rfl (by kernel_rfl) (by kernel_rfl) (by kernel_rfl) (fun _ _ _ h => h) (Or.inl ⟨by rfl, ?_⟩) (by first | with_reducible exact ⟨c5, r25, e0, e1⟩ | with_reducible exact ⟨d5, s25, g0, g1⟩) ?_
        rotate_left
        · intro w hSw
          try dsimp only at hSw
          go_simp
          try with_reducible rfl
        try simp only [Act.put, List.setIfInBounds_toArray, List.set_cons_zero, List.set_cons_succ]
        refine wpAnyH_take (i := 1) (oi := ({ dst := some 153, op := Op.nilCheck (Operand.tmp 152), type := 0, pos := _, after := #[{ on := 0, ground := Ground.data }], guard := none } : Oper)) (v := ?_) rfl (by kernel_rfl) (by kernel_rfl) (by kernel_rfl) (fun _ _ _ h => h) (Or.inl ⟨by rfl, ?_⟩) (by first | with_reducible exact ⟨c5, r25, e0, e1⟩ | with_reducible exact ⟨d5, s25, g0, g1⟩) ?_
        rotate_left
        · intro w hSw
          try dsimp only at hSw
          go_simp
          try with_reducible rfl
        try simp only [Act.put, List.setIfInBounds_toArray, List.set_cons_zero, List.set_cons_succ]
        refine wpAnyH_take (i := 2) (oi := ({ dst := some 154, op := Op.fieldAddr 81 (Operand.tmp 153) 5, type := 0, pos := _, after := #[{ on := 1, ground := Ground.data }], guard := none } : Oper)) (v := ?_) rfl (by kernel_rfl) (by kernel_rfl) (by kernel_rfl) (fun _ _ _ h => h) (Or.inl ⟨by rfl, ?_⟩) (by first | with_reducible exact ⟨c5, r25, e0, e1⟩ | with_reducible exact ⟨d5, s25, g0, g1⟩) ?_
        rotate_left
        · intro w hSw
          try dsimp only at hSw
          go_simp
          try with_reducible rfl
        try simp only [Act.put, List.setIfInBounds_toArray, List.set_cons_zero, List.set_cons_succ]
        refine wpAnyH_take (i := 3) (oi := ({ dst := some 155, op := Op.load 78 (Operand.tmp 154), type := 78, pos := _, after := #[{ on := 2, ground := Ground.data }], guard := none } : Oper)) (v := ?_) rfl (by kernel_rfl) (by kernel_rfl) (by kernel_rfl) (fun _ _ _ h => h) (Or.inl ⟨by rfl, ?_⟩) (by first | with_reducible exact ⟨c5, r25, e0, e1⟩ | with_reducible exact ⟨d5, s25, g0, g1⟩) ?_
        rotate_left
        · intro w hSw
          try dsimp only at hSw
          go_simp
          try with_reducible rfl
        try simp only [Act.put, List.setIfInBounds_toArray, List.set_cons_zero, List.set_cons_succ]
        refine wpAnyH_take (i := 4) (oi := ({ dst := some 156, op := Op.fieldAddr 71 (Operand.tmp 7) 0, type := 0, pos := _, after := #[], guard := none } : Oper)) (v := ?_) rfl (by kernel_rfl) (by kernel_rfl) (by kernel_rfl) (fun _ _ _ h => h) (Or.inl ⟨by rfl, ?_⟩) (by first | with_reducible exact ⟨c5, r25, e0, e1⟩ | with_reducible exact ⟨d5, s25, g0, g1⟩) ?_
        rotate_left
        · intro w hSw
          try dsimp only at hSw
          go_simp
          try with_reducible rfl
        try simp only [Act.put, List.setIfInBounds_toArray, List.set_cons_zero, List.set_cons_succ]
        refine wpAnyH_take (i := 5) (oi := ({ dst := some 157, op := Op.load 69 (Operand.tmp 156), type := 69, pos := _, after := #[{ on := 4, ground := Ground.data }], guard := none } : Oper)) (v := (.agg ((padT l).map (Value.int .u8)).toArray)) rfl (by kernel_rfl) (by kernel_rfl) (by kernel_rfl) (fun _ _ _ h => h) (yieldsIf_load_mid (by rfl) 69 (.tmp 156) rfl kb 0 rfl ((padT l).map (Value.int .u8)) _ (fun _ h => h.2.1) Try.underlying69 rfl (by rw [info69, List.length_map, hpl])) (by first | with_reducible exact ⟨c5, r25, e0, e1⟩ | with_reducible exact ⟨d5, s25, g0, g1⟩) ?_
        try simp only [Act.put, List.setIfInBounds_toArray, List.set_cons_zero, List.set_cons_succ]
        refine wpAnyH_take (i := 6) (oi := ({ dst := some 158, op := Op.fieldAddr 35 (Operand.tmp 5) 0, type := 0, pos := _, after := #[], guard := none } : Oper)) (v := ?_) rfl (by kernel_rfl) (by kernel_rfl) (by kernel_rfl) (fun _ _ _ h => h) (Or.inl ⟨by rfl, ?_⟩) (by first | with_reducible exact ⟨c5, r25, e0, e1⟩ | with_reducible exact ⟨d5, s25, g0, g1⟩) ?_
        rotate_left
        · intro w hSw
          try dsimp only at hSw
          go_simp
          try with_reducible rfl
        try simp only [Act.put, List.setIfInBounds_toArray, List.set_cons_zero, List.set_cons_succ]
        refine wpAnyH_take (i := 7) (oi := ({ dst := some 159, op := Op.load 33 (Operand.tmp 158), type := 33, pos := _, after := #[{ on := 6, ground := Ground.data }], guard := none } : Oper)) (v := ?_) rfl (by kernel_rfl) (by kernel_rfl) (by kernel_rfl) (fun _ _ _ h => h) (Or.inl ⟨by rfl, ?_⟩) (by first | with_reducible exact ⟨c5, r25, e0, e1⟩ | with_reducible exact ⟨d5, s25, g0, g1⟩) ?_
        rotate_left
        · intro w hSw
          try dsimp only at hSw
          go_simp
          try with_reducible rfl
        try simp only [Act.put, List.setIfInBounds_toArray, List.set_cons_zero, List.set_cons_succ]
        refine wpAnyH_ready (rs := [8]) (by kernel_rfl) (by simp) ?_
        refine AllReadyH.cons (o := ({ dst := none, op := Op.mapUpdate 78 (Operand.tmp 155) (Operand.tmp 157) (Operand.tmp 159), type := 0, pos := _, after := #[{ on := 3, ground := Ground.data }, { on := 5, ground := Ground.data }, { on := 7, ground := Ground.data }, { on := 0, ground := Ground.phase }, { on := 1, ground := Ground.phase }, { on := 2, ground := Ground.phase }, { on := 3, ground := Ground.phase }, { on := 4, ground := Ground.phase }, { on := 5, ground := Ground.phase }, { on := 6, ground := Ground.phase }, { on := 7, ground := Ground.phase }], guard := none } : Oper)) rfl (fun K hK => ?_) AllReadyH.nil
        refine step_mset rfl 78 (.tmp 155) (.tmp 157) (.tmp 159) rfl (.map (some tb)) (.agg (trkC (padT l))) (.agg #[.int .u64 g, .int .u64 n]) rfl rfl rfl _ hrun25 ?_
        refine hK.out _ _ (by first | with_reducible exact ⟨c5, r25, e0, e1⟩ | with_reducible exact ⟨d5, s25, g0, g1⟩) (fun _ => ?_)
        clear hK K
        try simp only [Act.put, List.setIfInBounds_toArray, List.set_cons_zero, List.set_cons_succ]
        refine wpAnyH_done (by kernel_rfl) ?_ _
        go_wp2_with fail
        go_ret
        refine ⟨rfl, lv2, ⟨.slice nA d.length nk, ?_⟩, hB26, hlb2, by rw [← HSE.out]; exact hfit⟩
        rw [← HSE.out, tadd_none HTN.out]
        exact hS26
      | true =>
        have hts := HTF.out.resolve_left (fun h => by cases h.1)
        have HTS := Lib.hid hts.2
        clear hts HTF
        obtain ⟨lt, hlt⟩ : ∃ lt, lt = ltP ta tn g n := ⟨_, rfl⟩
        have hless := less_any ta tn g n
        rw [← hlt] at hless
        have HLT := Lib.hid hlt
        clear hlt
        cases lt with
        | true =>
          go_upto_region 25 with (first | (go_at_call 34; (with_reducible refine (hless _).mono ?_); rintro e w25a ⟨rfl, hb25⟩) | fail)
          have hSa := hS.kept hb25
          have hOa := hO.same hb25
          have hVa := hV.same hb25
          have hBa := hB.trans (KB.of hb25)
          clear o0 o1 p0 p1 hS hO hV hP hB hless hb25
          refine wp_world (fun wz => SX wz B sb lb zb tb lv2 room (s.used + ((d.length : Int) + 16)) (s.E ++ [(⟨padT l, g, n, p, d⟩, .slice nA d.length nk)]) (zadd s.Z (padT l, g) ((d.length : Int) + 16)) T ∧ Blk wz w.heap.size 35 #[.int .u64 g, .int .u64 n, .int .u8 p, .bool false, (.slice nA d.length nk)] ∧ Blk wz kb 71 (keyC (padT l) g n) ∧ KB (fun g => g = sb ∨ g = lb ∨ g = zb ∨ g = tb ∨ lv.ownBlock = some g) w wz) ⟨hSa, hOa, hVa, hBa⟩ ?_
          clear hSa hOa hVa hBa
          rintro w25 ⟨hS, hO, hV, hB⟩
          have hSd : SX w25.drew B sb lb zb tb lv2 room (s.used + ((d.length : Int) + 16)) (s.E ++ [(⟨padT l, g, n, p, d⟩, .slice nA d.length nk)]) (zadd s.Z (padT l, g) ((d.length : Int) + 16)) T := { hS with blk := hS.blk }
          have hVd : Blk w25.drew kb 71 (keyC (padT l) g n) := hV
          have hOd : Blk w25.drew w.heap.size 35 #[.int .u64 g, .int .u64 n, .int .u8 p, .bool false, (.slice nA d.length nk)] := hO
          have c5 : World.cell? w25.drew ⟨sb, 5, none⟩ = some (.map (some tb)) := hSd.blk.cell 5
          have r25 := key_range hVd
          have e0 : World.cell? w25.drew ⟨w.heap.size, 0, none⟩ = some (.int .u64 g) := hOd.cell 0
          have e1 : World.cell? w25.drew ⟨w.heap.size, 1, none⟩ = some (.int .u64 n) := hOd.cell 1
          obtain ⟨w26, hrun25, hk25, hg25, _⟩ := hSd.kt.tset hpt g n
          have hS26 : SX w26 B sb lb zb tb lv2 room (s.used + ((d.length : Int) + 16)) (s.E ++ [(⟨padT l, g, n, p, d⟩, .slice nA d.length nk)]) (zadd s.Z (padT l, g) ((d.length : Int) + 16)) (tput T (padT l) g n) := (hSd.sy.setT hg25 hk25).sx rfl
          have hV26 := hVd.grown hg25 (by simpa using blk_km_ne hVd hSd.kt)
          have hO26 := hOd.grown hg25 (by simpa using blk_km_ne hOd hSd.kt)
          have d5 : World.cell? w26 ⟨sb, 5, none⟩ = some (.map (some tb)) := hS26.blk.cell 5
          have s25 := key_range hV26
          have g0 : World.cell? w26 ⟨w.heap.size, 0, none⟩ = some (.int .u64 g) := hO26.cell 0
          have g1 : World.cell? w26 ⟨w.heap.size, 1, none⟩ = some (.int .u64 n) := hO26.cell 1
          have hB26 : KB (fun g => g = sb ∨ g = lb ∨ g = zb ∨ g = tb ∨ lv.ownBlock = some g) w w26 := (hB.drewN 1).grown hg25 (fun k hk => .inl (.inr (.inr (.inr (.inl (by simpa using hk.symm))))))
          clear hk25 hg25
          refine wp_region_held_drew (S := fun W => World.cell? W ⟨sb, 5, none⟩ = some (.map (some tb)) ∧ W.rangeAt kb 0 ((padT l).map (Value.int .u8)) ∧ World.cell? W ⟨w.heap.size, 0, none⟩ = some (.int .u64 g) ∧ World.cell? W ⟨w.heap.size, 1, none⟩ = some (.int .u64 n)) (by kernel_rfl) (by first | with_reducible exact ⟨c5, r25, e0, e1⟩ | with_reducible exact ⟨d5, s25, g0, g1⟩) (fun _ => ?_)
          refine wpAnyH_take (i := 0) (oi := ({ dst := some 152, op := Op.move (Operand.tmp 0), type := 25, pos := _, after := #[], guard := none } : Oper)) (v := ?_) rfl (by kernel_rfl) (by kernel_rfl) (by kernel_rfl) (fun _ _ _ h => h) (Or.inl ⟨by rfl, ?_⟩) (by first | with_reducible exact ⟨c5, r25, e0, e1⟩ | with_reducible exact ⟨d5, s25, g0, g1⟩) ?_
          rotate_left
          · intro w hSw
            try dsimp only at hSw
            go_simp
            try with_reducible rfl
          try simp only [Act.put, List.setIfInBounds_toArray, List.set_cons_zero, List.set_cons_succ]
          refine wpAnyH_take (i := 1) (oi := ({ dst := some 153, op := Op.nilCheck (Operand.tmp 152), type := 0, pos := _, after := #[{ on := 0, ground := Ground.data }], guard := none } : Oper)) (v := ?_) rfl (by kernel_rfl) (by kernel_rfl) (by kernel_rfl) (fun _ _ _ h => h) (Or.inl ⟨by rfl, ?_⟩) (by first | with_reducible exact ⟨c5, r25, e0, e1⟩ | with_reducible exact ⟨d5, s25, g0, g1⟩) ?_
          rotate_left
          · intro w hSw
            try dsimp only at hSw
            go_simp
            try with_reducible rfl
          try simp only [Act.put, List.setIfInBounds_toArray, List.set_cons_zero, List.set_cons_succ]
          refine wpAnyH_take (i := 2) (oi := ({ dst := some 154, op := Op.fieldAddr 81 (Operand.tmp 153) 5, type := 0, pos := _, after := #[{ on := 1, ground := Ground.data }], guard := none } : Oper)) (v := ?_) rfl (by kernel_rfl) (by kernel_rfl) (by kernel_rfl) (fun _ _ _ h => h) (Or.inl ⟨by rfl, ?_⟩) (by first | with_reducible exact ⟨c5, r25, e0, e1⟩ | with_reducible exact ⟨d5, s25, g0, g1⟩) ?_
          rotate_left
          · intro w hSw
            try dsimp only at hSw
            go_simp
            try with_reducible rfl
          try simp only [Act.put, List.setIfInBounds_toArray, List.set_cons_zero, List.set_cons_succ]
          refine wpAnyH_take (i := 3) (oi := ({ dst := some 155, op := Op.load 78 (Operand.tmp 154), type := 78, pos := _, after := #[{ on := 2, ground := Ground.data }], guard := none } : Oper)) (v := ?_) rfl (by kernel_rfl) (by kernel_rfl) (by kernel_rfl) (fun _ _ _ h => h) (Or.inl ⟨by rfl, ?_⟩) (by first | with_reducible exact ⟨c5, r25, e0, e1⟩ | with_reducible exact ⟨d5, s25, g0, g1⟩) ?_
          rotate_left
          · intro w hSw
            try dsimp only at hSw
            go_simp
            try with_reducible rfl
          try simp only [Act.put, List.setIfInBounds_toArray, List.set_cons_zero, List.set_cons_succ]
          refine wpAnyH_take (i := 4) (oi := ({ dst := some 156, op := Op.fieldAddr 71 (Operand.tmp 7) 0, type := 0, pos := _, after := #[], guard := none } : Oper)) (v := ?_) rfl (by kernel_rfl) (by kernel_rfl) (by kernel_rfl) (fun _ _ _ h => h) (Or.inl ⟨by rfl, ?_⟩) (by first | with_reducible exact ⟨c5, r25, e0, e1⟩ | with_reducible exact ⟨d5, s25, g0, g1⟩) ?_
          rotate_left
          · intro w hSw
            try dsimp only at hSw
            go_simp
            try with_reducible rfl
          try simp only [Act.put, List.setIfInBounds_toArray, List.set_cons_zero, List.set_cons_succ]
          refine wpAnyH_take (i := 5) (oi := ({ dst := some 157, op := Op.load 69 (Operand.tmp 156), type := 69, pos := _, after := #[{ on := 4, ground := Ground.data }], guard := none } : Oper)) (v := (.agg ((padT l).map (Value.int .u8)).toArray)) rfl (by kernel_rfl) (by kernel_rfl) (by kernel_rfl) (fun _ _ _ h => h) (yieldsIf_load_mid (by rfl) 69 (.tmp 156) rfl kb 0 rfl ((padT l).map (Value.int .u8)) _ (fun _ h => h.2.1) Try.underlying69 rfl (by rw [info69, List.length_map, hpl])) (by first | with_reducible exact ⟨c5, r25, e0, e1⟩ | with_reducible exact ⟨d5, s25, g0, g1⟩) ?_
          try simp only [Act.put, List.setIfInBounds_toArray, List.set_cons_zero, List.set_cons_succ]
          refine wpAnyH_take (i := 6) (oi := ({ dst := some 158, op := Op.fieldAddr 35 (Operand.tmp 5) 0, type := 0, pos := _, after := #[], guard := none } : Oper)) (v := ?_) rfl (by kernel_rfl) (by kernel_rfl) (by kernel_rfl) (fun _ _ _ h => h) (Or.inl ⟨by rfl, ?_⟩) (by first | with_reducible exact ⟨c5, r25, e0, e1⟩ | with_reducible exact ⟨d5, s25, g0, g1⟩) ?_
          rotate_left
          · intro w hSw
            try dsimp only at hSw
            go_simp
            try with_reducible rfl
          try simp only [Act.put, List.setIfInBounds_toArray, List.set_cons_zero, List.set_cons_succ]
          refine wpAnyH_take (i := 7) (oi := ({ dst := some 159, op := Op.load 33 (Operand.tmp 158), type := 33, pos := _, after := #[{ on := 6, ground := Ground.data }], guard := none } : Oper)) (v := ?_) rfl (by kernel_rfl) (by kernel_rfl) (by kernel_rfl) (fun _ _ _ h => h) (Or.inl ⟨by rfl, ?_⟩) (by first | with_reducible exact ⟨c5, r25, e0, e1⟩ | with_reducible exact ⟨d5, s25, g0, g1⟩) ?_
          rotate_left
          · intro w hSw
            try dsimp only at hSw
            go_simp
            try with_reducible rfl
          try simp only [Act.put, List.setIfInBounds_toArray, List.set_cons_zero, List.set_cons_succ]
          refine wpAnyH_ready (rs := [8]) (by kernel_rfl) (by simp) ?_
          refine AllReadyH.cons (o := ({ dst := none, op := Op.mapUpdate 78 (Operand.tmp 155) (Operand.tmp 157) (Operand.tmp 159), type := 0, pos := _, after := #[{ on := 3, ground := Ground.data }, { on := 5, ground := Ground.data }, { on := 7, ground := Ground.data }, { on := 0, ground := Ground.phase }, { on := 1, ground := Ground.phase }, { on := 2, ground := Ground.phase }, { on := 3, ground := Ground.phase }, { on := 4, ground := Ground.phase }, { on := 5, ground := Ground.phase }, { on := 6, ground := Ground.phase }, { on := 7, ground := Ground.phase }], guard := none } : Oper)) rfl (fun K hK => ?_) AllReadyH.nil
          refine step_mset rfl 78 (.tmp 155) (.tmp 157) (.tmp 159) rfl (.map (some tb)) (.agg (trkC (padT l))) (.agg #[.int .u64 g, .int .u64 n]) rfl rfl rfl _ hrun25 ?_
          refine hK.out _ _ (by first | with_reducible exact ⟨c5, r25, e0, e1⟩ | with_reducible exact ⟨d5, s25, g0, g1⟩) (fun _ => ?_)
          clear hK K
          try simp only [Act.put, List.setIfInBounds_toArray, List.set_cons_zero, List.set_cons_succ]
          refine wpAnyH_done (by kernel_rfl) ?_ _
          go_wp2_with fail
          go_ret
          refine ⟨rfl, lv2, ⟨.slice nA d.length nk, ?_⟩, hB26, hlb2, by rw [← HSE.out]; exact hfit⟩
          rw [← HSE.out, tadd_lt HTS.out HLT.out.symm]
          exact hS26
        | false =>
          go_wp2_with (first | (go_at_call 34; (with_reducible refine (hless _).mono ?_); rintro e w25a ⟨rfl, hb25⟩) | fail)
          go_ret
          refine ⟨rfl, lv2, ⟨.slice nA d.length nk, ?_⟩, hB.trans (KB.of hb25), hlb2, by rw [← HSE.out]; exact hfit⟩
          rw [← HSE.out, tadd_ge HTS.out HLT.out.symm]
          exact hS.kept hb25
    · have hd12 : decide (room < s.used + ((d.length : Int) + 16)) = true := decide_eq_true (by omega)
      obtain ⟨z, hz, hzx⟩ := vic_some (x := (padT l, g)) (c := ((d.length : Int) + 16)) (room := room) hok hS.lots (by rw [hzg]; exact hlong) (by omega)
      obtain ⟨z0, Zr, hZ⟩ : ∃ z0 Zr, s.Z = z0 :: Zr := by
        cases h : s.Z with
        | nil => rw [h] at hz; simp at hz
        | cons a A => exact ⟨a, A, rfl⟩
      have hlf : ∃ b0 c0, lv' = .slice (some ⟨b0, 0, none⟩) (s.Z.map (·.1)).length c0 ∧ B ≤ b0 := by
        rcases lr_form hS.lr with ⟨_, h⟩ | ⟨b0, c0, h1, h2, _⟩
        · rw [List.map_eq_nil_iff, hZ] at h; cases h
        · exact ⟨b0, c0, h1, h2⟩
      obtain ⟨b0, c0', rfl, hb0B⟩ := hlf
      have hzok := hS.zok
      have hz0o := hzok z0 (by rw [hZ]; simp)
      have hob : lv.ownBlock = some b0 := hlb.symm
      obtain ⟨N, hN⟩ : ∃ N, N = (s.Z.map (·.1)).length := ⟨_, rfl⟩
      rw [← hN] at hS
      have hN0 : 0 < N := by rw [hN, hZ]; simp
      have HN := Lib.hid hN
      have HZ0 := Lib.hid hZ
      have HZV := Lib.hid hz
      have HNF := Lib.hid hfit
      clear hN hZ hz hfit
      go_upto_region 14 with fail
      have Cc0 := Cls.cells c0 (World.block_lt_of_cell? _ _ c0)
      have Cc1 := Cls.cells c1 (World.block_lt_of_cell? _ _ c1)
      have Co0 := Cls.cells o0 (World.block_lt_of_cell? _ _ o0)
      have Co1 := Cls.cells o1 (World.block_lt_of_cell? _ _ o1)
      have Co2 := Cls.cells o2 (World.block_lt_of_cell? _ _ o2)
      have Co3 := Cls.cells o3 (World.block_lt_of_cell? _ _ o3)
      have Co4 := Cls.cells o4 (World.block_lt_of_cell? _ _ o4)
      refine wp_region_cls (by kernel_rfl) (by kernel_rfl) ?_
      repeat (go_big_quiet_step ((first | (go_at_call 31; with_reducible exact Cls.call (Nat.le_refl _) (cost_any g n p gr dA d.length dc _ (by omega))))))
      refine wpQuiet_nil ?_
      intro w7 hb7
      have c0 := keepB_cell c0 w7 hb7
      have c1 := keepB_cell c1 w7 hb7
      have o0 := keepB_cell o0 w7 hb7
      have o1 := keepB_cell o1 w7 hb7
      have o2 := keepB_cell o2 w7 hb7
      have o3 := keepB_cell o3 w7 hb7
      have o4 := keepB_cell o4 w7 hb7
      clear Cc0 Cc1 Co0 Co1 Co2 Co3 Co4
      (try simp only [Exit.then, Exit.inBlock])
      go_upto_region 14 with fail
      have hb7' : Below wr.heap.size wr w7 := hb7
      refine wp_world (fun wz => SX wz B sb lb zb tb (.slice (some ⟨b0, 0, none⟩) N c0') room s.used s.E s.Z T ∧ Blk wz w.heap.size 35 #[.int .u64 g, .int .u64 n, .int .u8 p, .bool gr, (.slice dA d.length dc)] ∧ Blk wz kb 71 (keyC (padT l) g n) ∧ Blk wz xb 84 (lotC (padT l) g) ∧ KB (fun g => g = sb ∨ g = lb ∨ g = zb ∨ lv.ownBlock = some g) w wz) ⟨hS.kept hb7', hO.same hb7', hV.same hb7', hX.same hb7', hB.trans (KB.of hb7')⟩ ?_
      clear hb7 hb7' hS hO hV hX hB c0 c1 o0 o1 o2 o3 o4 hd12
      rintro wa ⟨hS, hO, hV, hX, hB⟩
      have c3 : World.cell? wa.drew ⟨sb, 3, none⟩ = some (.slice (some ⟨b0, 0, none⟩) N c0') := hS.blk.cell 3
      have x14 : wa.drew.rangeAt xb 0 (lotC (padT l) g).toList := rows_at (show Blk wa.drew xb 84 _ from hX)
      have r14 : wa.drew.rangeAt b0 0 (lotC z0.1.1 z0.1.2).toList := by
        have h := lr_range hS.lr (fun x hx => by obtain ⟨u, hu, rfl⟩ := List.mem_map.1 hx; exact hzok u hu) 0 (by rw [← HN.out]; exact hN0)
        simp only [HZ0.out, List.map_cons, List.getElem_cons_zero, Nat.zero_mul] at h
        exact h
      have hz0l : (lotC z0.1.1 z0.1.2).toList.length = 33 := by rw [Array.length_toList, lot_size hz0o.1]
      have he := bin_lot2 hz0o.1 hpt hz0o.2 hg
      refine wp_region_held_drew (S := fun W => World.cell? W ⟨sb, 3, none⟩ = some (.slice (some ⟨b0, 0, none⟩) N c0') ∧ W.rangeAt b0 0 (lotC z0.1.1 z0.1.2).toList ∧ W.rangeAt xb 0 (lotC (padT l) g).toList) (by kernel_rfl) (by with_reducible exact ⟨c3, r14, x14⟩) (fun _ => ?_)
      refine wpAnyH_take (i := 0) (oi := ({ dst := some 69, op := Op.move (Operand.tmp 0), type := 25, pos := _, after := #[], guard := none } : Oper)) (v := ?_) rfl (by kernel_rfl) (by kernel_rfl) (by kernel_rfl) (fun _ _ _ h => h) (Or.inl ⟨by rfl, ?_⟩) (by with_reducible exact ⟨c3, r14, x14⟩) ?_
      rotate_left
      · intro w hSw
        try dsimp only at hSw
        go_simp
        try with_reducible rfl
      try simp only [Act.put, List.setIfInBounds_toArray, List.set_cons_zero, List.set_cons_succ]
      refine wpAnyH_take (i := 1) (oi := ({ dst := some 70, op := Op.nilCheck (Operand.tmp 69), type := 0, pos := _, after := #[{ on := 0, ground := Ground.data }], guard := none } : Oper)) (v := ?_) rfl (by kernel_rfl) (by kernel_rfl) (by kernel_rfl) (fun _ _ _ h => h) (Or.inl ⟨by rfl, ?_⟩) (by with_reducible exact ⟨c3, r14, x14⟩) ?_
      rotate_left
      · intro w hSw
        try dsimp only at hSw
        go_simp
        try with_reducible rfl
      try simp only [Act.put, List.setIfInBounds_toArray, List.set_cons_zero, List.set_cons_succ]
      refine wpAnyH_take (i := 2) (oi := ({ dst := some 71, op := Op.fieldAddr 81 (Operand.tmp 70) 3, type := 0, pos := _, after := #[{ on := 1, ground := Ground.data }], guard := none } : Oper)) (v := ?_) rfl (by kernel_rfl) (by kernel_rfl) (by kernel_rfl) (fun _ _ _ h => h) (Or.inl ⟨by rfl, ?_⟩) (by with_reducible exact ⟨c3, r14, x14⟩) ?_
      rotate_left
      · intro w hSw
        try dsimp only at hSw
        go_simp
        try with_reducible rfl
      try simp only [Act.put, List.setIfInBounds_toArray, List.set_cons_zero, List.set_cons_succ]
      refine wpAnyH_take (i := 3) (oi := ({ dst := some 72, op := Op.load 79 (Operand.tmp 71), type := 79, pos := _, after := #[{ on := 2, ground := Ground.data }], guard := none } : Oper)) (v := ?_) rfl (by kernel_rfl) (by kernel_rfl) (by kernel_rfl) (fun _ _ _ h => h) (Or.inl ⟨by rfl, ?_⟩) (by with_reducible exact ⟨c3, r14, x14⟩) ?_
      rotate_left
      · intro w hSw
        try dsimp only at hSw
        go_simp
        try with_reducible rfl
      try simp only [Act.put, List.setIfInBounds_toArray, List.set_cons_zero, List.set_cons_succ]
      refine wpAnyH_take (i := 4) (oi := ({ dst := some 73, op := Op.indexAddr 79 (Operand.tmp 72) (Operand.const (Value.int IntKind.i64 0)), type := 0, pos := _, after := #[{ on := 3, ground := Ground.data }], guard := none } : Oper)) (v := ?_) rfl (by kernel_rfl) (by kernel_rfl) (by kernel_rfl) (fun _ _ _ h => h) (Or.inl ⟨by rfl, ?_⟩) (by with_reducible exact ⟨c3, r14, x14⟩) ?_
      rotate_left
      · intro w hSw
        try dsimp only at hSw
        go_simp
        try with_reducible rfl
      try simp only [Act.put, List.setIfInBounds_toArray, List.set_cons_zero, List.set_cons_succ]
      refine wpAnyH_take (i := 5) (oi := ({ dst := some 74, op := Op.load 84 (Operand.tmp 73), type := 84, pos := _, after := #[{ on := 4, ground := Ground.data }], guard := none } : Oper)) (v := (.agg (lotC z0.1.1 z0.1.2).toList.toArray)) rfl (by kernel_rfl) (by kernel_rfl) (by kernel_rfl) (fun _ _ _ h => h) (yieldsIf_load_mid (by rfl) 84 (.tmp 73) rfl b0 0 rfl (lotC z0.1.1 z0.1.2).toList _ (fun _ h => h.2.1) Try.underlying84 rfl (by rw [info84, hz0l])) (by with_reducible exact ⟨c3, r14, x14⟩) ?_
      try simp only [Act.put, List.setIfInBounds_toArray, List.set_cons_zero, List.set_cons_succ]
      refine wpAnyH_take (i := 6) (oi := ({ dst := some 75, op := Op.load 84 (Operand.tmp 11), type := 84, pos := _, after := #[], guard := none } : Oper)) (v := (.agg (lotC (padT l) g).toList.toArray)) rfl (by kernel_rfl) (by kernel_rfl) (by kernel_rfl) (fun _ _ _ h => h) (yieldsIf_load_mid (by rfl) 84 (.tmp 11) rfl xb 0 rfl (lotC (padT l) g).toList _ (fun _ h => h.2.2) Try.underlying84 rfl (by rw [info84, Array.length_toList, hls])) (by with_reducible exact ⟨c3, r14, x14⟩) ?_
      try simp only [Act.put, List.setIfInBounds_toArray, List.set_cons_zero, List.set_cons_succ]
      refine wpAnyH_take (i := 7) (oi := ({ dst := some 76, op := Op.binOp BinOp.eql 84 (Operand.tmp 74) (Operand.tmp 75) 84, type := 4, pos := _, after := #[{ on := 5, ground := Ground.data }, { on := 6, ground := Ground.data }], guard := none } : Oper)) (v := ?_) rfl (by kernel_rfl) (by kernel_rfl) (by kernel_rfl) (fun _ _ _ h => h) (Or.inl ⟨by rfl, ?_⟩) (by with_reducible exact ⟨c3, r14, x14⟩) ?_
      rotate_left
      · intro w hSw
        try dsimp only at hSw
        go_simp
        try with_reducible rfl
      try simp only [Act.put, List.setIfInBounds_toArray, List.set_cons_zero, List.set_cons_succ]
      refine wpAnyH_done (by kernel_rfl) ?_ _
      by_cases hs0 : z0.1 = (padT l, g)
      · have hvi0 : vic (padT l, g) s.Z = 1 := by rw [HZ0.out]; simp [vic, hs0]
        have HVI := Lib.hid hvi0
        have hzi : s.Z[1]? = some z := by rw [← hvi0]; exact HZV.out
        have hSd : SX wa.drew B sb lb zb tb (.slice (some ⟨b0, 0, none⟩) N c0') room s.used s.E s.Z T := { hS with blk := hS.blk }
        have hzl : (lotC z.1.1 z.1.2).toList.length = 33 := by rw [Array.length_toList, lot_size (hzok z (List.mem_of_getElem? hzi)).1]
        have hzt : (lotC z.1.1 z.1.2).toList.toArray = lotC z.1.1 z.1.2 := toA _
        have r16 : wa.drew.rangeAt b0 33 (lotC z.1.1 z.1.2).toList := by
          obtain ⟨hi, hiz⟩ := List.getElem?_eq_some_iff.1 hzi
          have h := lr_range hSd.lr (fun x hx => by obtain ⟨u, hu, rfl⟩ := List.mem_map.1 hx; exact hzok u hu) 1 (by rw [List.length_map]; exact hi)
          simp only [List.getElem_map, hiz, Nat.zero_mul, Nat.one_mul] at h
          exact h
        have hN1 : 1 < N := by rw [HN.out, List.length_map]; exact (List.getElem?_eq_some_iff.1 hzi).1
        have hu8 : 0 ≤ z.2 ∧ z.2 ≤ s.used ∧ s.used ≤ 1048576 := ⟨hok.nn z (List.mem_of_getElem? hzi), by rw [hok.sum]; exact zsum_mem hok.nn hzi, by omega⟩
        have hlet := let_any B sb lb zb tb 1 _ room s.used z.2 s.E s.Z T z.1 wa.drew hSd hzi (Nat.le_trans hBw hB.sz) hu8
        have hd14 : (decide (z0.1.1 = padT l) && decide (z0.1.2 = g)) = true := by rw [hs0]; simp
        rw [hd14]
        clear hS hd14 hs0 hvi0
        go_wp2_with (first | (refine wpList_load_mid rfl 84 (.tmp 83) rfl b0 33 rfl (lotC z.1.1 z.1.2).toList _ r16 Try.underlying84 rfl (by rw [info84, hzl]) ?_; rw [hzt]) | (go_at_call 32; refine hlet.mono ?_; rintro e w8 ⟨rfl, lv8, hS8, hlb8, hB8⟩) | fail)
        (try simp only [Exit.then, Exit.inBlock])
        have hS9 : SX w8 B sb lb zb tb lv8 room (drop1 (padT l, g) s).used (drop1 (padT l, g) s).E (drop1 (padT l, g) s).Z T := by rw [drop1_eq HZV.out, HVI.out]; exact hS8
        go_roundg ((drop1 (padT l, g) s).Z.length)
        case measure => rw [hgk, drop1_eq HZV.out, List.length_eraseIdx, if_pos (List.getElem?_eq_some_iff.1 HZV.out).1]; have := (List.getElem?_eq_some_iff.1 HZV.out).1; omega
        case rel =>
          have hB8' : KB (fun g => g = sb ∨ g = lb ∨ g = zb ∨ lv.ownBlock = some g) wa.drew w8 := hB8.mono (fun g h => by
            rcases h with h | h | h | h
            · exact .inl h
            · exact .inr (.inl h)
            · exact .inr (.inr (.inl h))
            · exact .inr (.inr (.inr (hob.trans h))))
          exact ⟨lv8, drop1 (padT l, g) s, rfl, hS9, Blk.kb (show Blk wa.drew w.heap.size 35 #[.int .u64 g, .int .u64 n, .int .u8 p, .bool gr, (.slice dA d.length dc)] from hO) hB8' (hfar _ (Nat.le_refl _)), Blk.kb (show Blk wa.drew kb 71 _ from hV) hB8' (hfar _ (by omega)), Blk.kb (show Blk wa.drew xb 84 _ from hX) hB8' (hfar _ (by omega)), KB.trans (show KB (fun g => g = sb ∨ g = lb ∨ g = zb ∨ lv.ownBlock = some g) w wa.drew from hB.drewN 1) hB8', drop1_ok hok, by rw [drop1_eq HZV.out]; show s.used - z.2 ≤ room; omega, by rw [drop1_eq HZV.out]; exact (zget_erase HZV.out hzx).trans hzg, Lib.hid (by rw [← evict_step (by have := HNF.out; omega) HZV.out]; exact HEV.out), hlb8.trans hob.symm⟩
      · have hvi0 : vic (padT l, g) s.Z = 0 := by rw [HZ0.out]; simp [vic, hs0]
        have HVI := Lib.hid hvi0
        have hzi : s.Z[0]? = some z := by rw [← hvi0]; exact HZV.out
        have hSd : SX wa.drew B sb lb zb tb (.slice (some ⟨b0, 0, none⟩) N c0') room s.used s.E s.Z T := { hS with blk := hS.blk }
        have hzl : (lotC z.1.1 z.1.2).toList.length = 33 := by rw [Array.length_toList, lot_size (hzok z (List.mem_of_getElem? hzi)).1]
        have hzt : (lotC z.1.1 z.1.2).toList.toArray = lotC z.1.1 z.1.2 := toA _
        have r16 : wa.drew.rangeAt b0 0 (lotC z.1.1 z.1.2).toList := by
          obtain ⟨hi, hiz⟩ := List.getElem?_eq_some_iff.1 hzi
          have h := lr_range hSd.lr (fun x hx => by obtain ⟨u, hu, rfl⟩ := List.mem_map.1 hx; exact hzok u hu) 0 (by rw [List.length_map]; exact hi)
          simp only [List.getElem_map, hiz, Nat.zero_mul, Nat.one_mul] at h
          exact h
        have hN1 : 0 < N := by rw [HN.out, List.length_map]; exact (List.getElem?_eq_some_iff.1 hzi).1
        have hu8 : 0 ≤ z.2 ∧ z.2 ≤ s.used ∧ s.used ≤ 1048576 := ⟨hok.nn z (List.mem_of_getElem? hzi), by rw [hok.sum]; exact zsum_mem hok.nn hzi, by omega⟩
        have hlet := let_any B sb lb zb tb 0 _ room s.used z.2 s.E s.Z T z.1 wa.drew hSd hzi (Nat.le_trans hBw hB.sz) hu8
        have hd14 : (decide (z0.1.1 = padT l) && decide (z0.1.2 = g)) = false := by rw [← Bool.not_eq_true]; intro h; simp only [Bool.and_eq_true, decide_eq_true_eq] at h; exact hs0 (Prod.ext h.1 h.2)
        rw [hd14]
        clear hS hd14 hs0 hvi0
        go_wp2_with (first | (refine wpList_load_mid rfl 84 (.tmp 83) rfl b0 0 rfl (lotC z.1.1 z.1.2).toList _ r16 Try.underlying84 rfl (by rw [info84, hzl]) ?_; rw [hzt]) | (go_at_call 32; refine hlet.mono ?_; rintro e w8 ⟨rfl, lv8, hS8, hlb8, hB8⟩) | fail)
        (try simp only [Exit.then, Exit.inBlock])
        have hS9 : SX w8 B sb lb zb tb lv8 room (drop1 (padT l, g) s).used (drop1 (padT l, g) s).E (drop1 (padT l, g) s).Z T := by rw [drop1_eq HZV.out, HVI.out]; exact hS8
        go_roundg ((drop1 (padT l, g) s).Z.length)
        case measure => rw [hgk, drop1_eq HZV.out, List.length_eraseIdx, if_pos (List.getElem?_eq_some_iff.1 HZV.out).1]; have := (List.getElem?_eq_some_iff.1 HZV.out).1; omega
        case rel =>
          have hB8' : KB (fun g => g = sb ∨ g = lb ∨ g = zb ∨ lv.ownBlock = some g) wa.drew w8 := hB8.mono (fun g h => by
            rcases h with h | h | h | h
            · exact .inl h
            · exact .inr (.inl h)
            · exact .inr (.inr (.inl h))
            · exact .inr (.inr (.inr (hob.trans h))))
          exact ⟨lv8, drop1 (padT l, g) s, rfl, hS9, Blk.kb (show Blk wa.drew w.heap.size 35 #[.int .u64 g, .int .u64 n, .int .u8 p, .bool gr, (.slice dA d.length dc)] from hO) hB8' (hfar _ (Nat.le_refl _)), Blk.kb (show Blk wa.drew kb 71 _ from hV) hB8' (hfar _ (by omega)), Blk.kb (show Blk wa.drew xb 84 _ from hX) hB8' (hfar _ (by omega)), KB.trans (show KB (fun g => g = sb ∨ g = lb ∨ g = zb ∨ lv.ownBlock = some g) w wa.drew from hB.drewN 1) hB8', drop1_ok hok, by rw [drop1_eq HZV.out]; show s.used - z.2 ≤ room; omega, by rw [drop1_eq HZV.out]; exact (zget_erase HZV.out hzx).trans hzg, Lib.hid (by rw [← evict_step (by have := HNF.out; omega) HZV.out]; exact HEV.out), hlb8.trans hob.symm⟩

end Go.Proofs.Ytiaabbflchdcbaa
