/-
  Last. No condition.
-/
import Derived.Test.YtiaabbflchdcbaaShdropw
namespace Go.Proofs.Ytiaabbflchdcbaa
open Go.RowKit
set_option linter.unusedVariables false
set_option linter.unusedSimpArgs false

theorem infoPL : (Try.prog.info? 33).map (·.size) = some 2 := by kernel_rfl
def plast (s : PS) (l : List Int) : Option (Int × Int) := if nameE l ≠ 0 then none else tget s.T (padT l)
def lastV (o : Option (Int × Int)) : Int × Int × Bool := match o with
  | none => (0, 0, false)
  | some v => (v.1, v.2, true)
theorem KM.tlook3 {w : World} {tb : Nat} {T : List (List Int × Int × Int)} {x : List Int} (h : KM Try.prog 82 w tb (T.map tkv)) (hx : T32 x) :
    ∃ (a b : Int) (f : Bool), (∀ W, KM Try.prog 82 W tb (T.map tkv) → (Instr.lookup 78 (.map (some tb)) (.agg (trkC x)) true).run Try.prog W = .ok (.tuple #[.agg #[.int .u64 a, .int .u64 b], .bool f]) W) ∧ lastV (tget T x) = (a, b, f) := by
  cases e : tget T x with
  | none => exact ⟨0, 0, false, fun W hW => by rw [hW.tlook hx, e]; rfl, rfl⟩
  | some v => exact ⟨v.1, v.2, true, fun W hW => by rw [hW.tlook hx, e]; rfl, rfl⟩
set_option maxHeartbeats 4000000 in
set_option maxRecDepth 100000 in
theorem last_bad (B sb lb zb tb : Nat) (v : Value) (room : Int) (l : List Int) (s : PS) (w : World) (hH : HS w B sb lb zb tb room s) (hv : Rd w .u8 v l) (hk : BytesOk l) (hll : l.length ≤ 1000000) (hne : nameE l ≠ 0) :
    Calls Try.prog 20 #[.pointer (some ⟨sb, 0, none⟩), v] w fun e w' => e = .returned (.tuple #[.agg #[.int .u64 0, .int .u64 0], .bool false]) ∧ HS w' B sb lb zb tb room s ∧ Below w.heap.size w w' := by
  obtain ⟨lv, E, hE, hS⟩ := hH
  have hE' := Lib.hid hE
  clear hE
  obtain ⟨used, hu⟩ : ∃ used, used = s.used := ⟨_, rfl⟩
  obtain ⟨Z, hZ⟩ : ∃ Z, Z = s.Z := ⟨_, rfl⟩
  obtain ⟨T, hT⟩ : ∃ T, T = s.T := ⟨_, rfl⟩
  rw [← hu, ← hZ, ← hT] at hS
  have HU := Lib.hid hu
  have HZ := Lib.hid hZ
  have HT := Lib.hid hT
  clear hu hZ hT
  have hR0 := Blk.new w 33 #[.int .u64 0, .int .u64 0]
  have hb0 : Below w.heap.size w (w.alloc (.cells #[.int .u64 0, .int .u64 0] 33)) := (Below.refl w.heap.size w).alloc (Nat.le_refl _) _
  have hS0 := hS.kept hb0
  have hv0 := hv.below hb0
  obtain ⟨vA, vc, rfl⟩ := hv.form
  go_enter Try.func20, Try.ntmps20
  go_upto_region 1 with fail
  refine wp_world (fun wz => SX wz B sb lb zb tb lv room used E Z T ∧ Blk wz w.heap.size 33 #[.int .u64 0, .int .u64 0] ∧ Rd wz .u8 (.slice vA l.length vc) l ∧ Below w.heap.size w wz) ⟨hS0, hR0, hv0, hb0⟩ ?_
  clear hS0 hR0 hv0 hb0 hS hv
  rintro w1 ⟨hS, hR, hv, hb⟩
  have hnm := name_any (.slice vA l.length vc) l 0 0 w1 hv hk (by omega)
  have hks := keyR_size (g := 0) (n := 0) hk
  obtain ⟨KV, hKV⟩ : ∃ KV, KV = keyR l 0 0 := ⟨_, rfl⟩
  have hk1 := keyR_one l 0 0
  rw [← hKV] at hnm hks hk1
  have HKV := Lib.hid hKV
  clear hKV
  obtain ⟨ec, hec⟩ : ∃ ec, ec = nameE l := ⟨_, rfl⟩
  rw [← hec] at hnm
  have HEC := Lib.hid hec
  clear hec
  go_upto_region 2 with (first | (go_at_call 29; refine hnm.mono ?_; rintro e w2 ⟨rfl, hb2⟩) | (refine wpList_store_new rfl 71 (.tmp 6) (.tmp 14) rfl 71 _ KV rfl rfl (by rw [info71, hks]) (by rw [hks]; rfl) hk1 ?_) | fail)
  clear hnm
  have hba : Below w2.heap.size w2 (w2.alloc (.cells KV 71)) := (Below.refl _ _).alloc (Nat.le_refl _) _
  refine wp_world (fun wz => SX wz B sb lb zb tb lv room used E Z T ∧ Blk wz w.heap.size 33 #[.int .u64 0, .int .u64 0] ∧ Blk wz w2.heap.size 71 KV ∧ Below w.heap.size w wz) ⟨(hS.kept hb2).kept hba, (hR.same hb2).same hba, Blk.new w2 71 KV, (hb.trans (hb2.mono hb.size)).trans (hba.mono (Nat.le_trans hb.size hb2.size))⟩ ?_
  obtain ⟨kb, hkb⟩ : ∃ kb, kb = w2.heap.size := ⟨_, rfl⟩
  have hkw : w.heap.size < kb := by rw [hkb]; exact (hR.same hb2).lt
  rw [← hkb]
  clear hba hS hR hv hb hb2 hkb
  rintro w3 ⟨hS, hR, hV, hb⟩
  have hz : (ec == 0) = false := by rw [HEC.out]; simpa using hne
  clear hne
  go_wp2_with (first | (refine wpList_store_row rfl _ _ _ rfl w.heap.size #[.int .u64 0, .int .u64 0] rfl rfl 33 #[.int .u64 0, .int .u64 0] hR (by rw [infoPL]; rfl) rfl (by simp [Value.oneCell']) ?_) | fail)
  refine bodyPost_ret (v := (.tuple #[.agg #[.int .u64 0, .int .u64 0], .bool false])) (by exact results_row2 Try.results20 _ _ rfl (Blk.row hR #[.int .u64 0, .int .u64 0]) Try.underlying33 rfl (by rw [infoPL]; rfl)) rfl ?_
  exact ⟨rfl, ⟨lv, E, hE'.out, by rw [← HU.out, ← HZ.out, ← HT.out]; exact hS.by_ hR (row_grown _ _ _) (by decide) (by decide) (by decide)⟩, below_row hb (by omega) _⟩
set_option maxHeartbeats 4000000 in
set_option maxRecDepth 100000 in
theorem last_ok (B sb lb zb tb : Nat) (v : Value) (room : Int) (l : List Int) (s : PS) (w : World) (hH : HS w B sb lb zb tb room s) (hv : Rd w .u8 v l) (hk : BytesOk l) (hll : l.length ≤ 1000000) (hne : nameE l = 0) (ta tn : Int) (tf : Bool) (hgv : lastV (tget s.T (padT l)) = (ta, tn, tf)) :
    Calls Try.prog 20 #[.pointer (some ⟨sb, 0, none⟩), v] w fun e w' => e = .returned (.tuple #[.agg #[.int .u64 ta, .int .u64 tn], .bool tf]) ∧ HS w' B sb lb zb tb room s ∧ Below w.heap.size w w' := by
  have HGV := Lib.hid hgv
  have hpt := padT32 hne hk
  have hpl := hpt.1
  clear hgv
  obtain ⟨lv, E, hE, hS⟩ := hH
  have hE' := Lib.hid hE
  clear hE
  obtain ⟨used, hu⟩ : ∃ used, used = s.used := ⟨_, rfl⟩
  obtain ⟨Z, hZ⟩ : ∃ Z, Z = s.Z := ⟨_, rfl⟩
  obtain ⟨T, hT⟩ : ∃ T, T = s.T := ⟨_, rfl⟩
  rw [← hu, ← hZ, ← hT] at hS
  have HU := Lib.hid hu
  have HZ := Lib.hid hZ
  have HT := Lib.hid hT
  clear hu hZ hT
  have hR0 := Blk.new w 33 #[.int .u64 0, .int .u64 0]
  have hb0 : Below w.heap.size w (w.alloc (.cells #[.int .u64 0, .int .u64 0] 33)) := (Below.refl w.heap.size w).alloc (Nat.le_refl _) _
  have hS0 := hS.kept hb0
  have hv0 := hv.below hb0
  obtain ⟨vA, vc, rfl⟩ := hv.form
  go_enter Try.func20, Try.ntmps20
  go_upto_region 1 with fail
  refine wp_world (fun wz => SX wz B sb lb zb tb lv room used E Z T ∧ Blk wz w.heap.size 33 #[.int .u64 0, .int .u64 0] ∧ Rd wz .u8 (.slice vA l.length vc) l ∧ Below w.heap.size w wz) ⟨hS0, hR0, hv0, hb0⟩ ?_
  clear hS0 hR0 hv0 hb0 hS hv
  rintro w1 ⟨hS, hR, hv, hb⟩
  have hnm := name_any (.slice vA l.length vc) l 0 0 w1 hv hk (by omega)
  have hks := keyR_size (g := 0) (n := 0) hk
  obtain ⟨KV, hKV⟩ : ∃ KV, KV = keyR l 0 0 := ⟨_, rfl⟩
  have hk1 := keyR_one l 0 0
  rw [← hKV] at hnm hks hk1
  have HKV := Lib.hid hKV
  clear hKV
  obtain ⟨ec, hec⟩ : ∃ ec, ec = nameE l := ⟨_, rfl⟩
  rw [← hec] at hnm
  have HEC := Lib.hid hec
  clear hec
  go_upto_region 2 with (first | (go_at_call 29; refine hnm.mono ?_; rintro e w2 ⟨rfl, hb2⟩) | (refine wpList_store_new rfl 71 (.tmp 6) (.tmp 14) rfl 71 _ KV rfl rfl (by rw [info71, hks]) (by rw [hks]; rfl) hk1 ?_) | fail)
  clear hnm
  have hba : Below w2.heap.size w2 (w2.alloc (.cells KV 71)) := (Below.refl _ _).alloc (Nat.le_refl _) _
  refine wp_world (fun wz => SX wz B sb lb zb tb lv room used E Z T ∧ Blk wz w.heap.size 33 #[.int .u64 0, .int .u64 0] ∧ Blk wz w2.heap.size 71 KV ∧ Below w.heap.size w wz) ⟨(hS.kept hb2).kept hba, (hR.same hb2).same hba, Blk.new w2 71 KV, (hb.trans (hb2.mono hb.size)).trans (hba.mono (Nat.le_trans hb.size hb2.size))⟩ ?_
  obtain ⟨kb, hkb⟩ : ∃ kb, kb = w2.heap.size := ⟨_, rfl⟩
  have hkw : w.heap.size < kb := by rw [hkb]; exact (hR.same hb2).lt
  rw [← hkb]
  clear hba hS hR hv hb hb2 hkb
  rintro w3 ⟨hS, hR, hV, hb⟩
  have he0 : ec = 0 := by rw [HEC.out]; exact hne
  subst he0
  have hKe : KV = (keyC (padT l) 0 0) := by rw [HKV.out, keyR, if_pos hne]
  subst hKe
  clear hne HKV
  have hSd : SX w3.drew B sb lb zb tb lv room used E Z T := { hS with blk := hS.blk }
  obtain ⟨ta', tn', tf', hlk, htf⟩ := hSd.kt.tlook3 hpt
  rw [HT.out, HGV.out] at htf
  simp only [Prod.mk.injEq] at htf
  obtain ⟨rfl, rfl, rfl⟩ := htf
  have HLK := Lib.hid hlk
  clear hlk
  have c5 : World.cell? w3.drew ⟨sb, 5, none⟩ = some (.map (some tb)) := hSd.blk.cell 5
  have r23 := key_range (show Blk w3.drew kb 71 (keyC (padT l) 0 0) from hV)
  have HK23 : Hid (∀ W, Below w3.heap.size w3 W → World.cell? W.drew ⟨sb, 5, none⟩ = some (.map (some tb)) ∧ W.drew.rangeAt kb 0 ((padT l).map (Value.int .u8)) ∧ KM Try.prog 82 W.drew tb (T.map tkv)) := Lib.hid (fun W hW => by
    have h1 := hS.kept hW
    have h2 := hV.same hW
    exact ⟨h1.blk.cell 5, key_range (show Blk W.drew kb 71 (keyC (padT l) 0 0) from h2), h1.kt⟩)
  have hba : Below w3.heap.size w3 (w3.alloc (.cells #[.int .u64 0, .int .u64 0] 33)) := (Below.refl _ _).alloc (Nat.le_refl _) _
  have hbb : Below w3.heap.size w3 (w3.alloc (.cells #[.int .u64 ta, .int .u64 tn] 33)) := (Below.refl _ _).alloc (Nat.le_refl _) _
  have hbc : Below w3.heap.size w3 (w3.alloc (.cells #[.int .u64 ta, .int .u64 tn] 33)).drew := below_drewN hbb 1
  go_upto_region 4 with fail
  refine wp_region_held_drew (S := fun W => World.cell? W ⟨sb, 5, none⟩ = some (.map (some tb)) ∧ W.rangeAt kb 0 ((padT l).map (Value.int .u8)) ∧ KM Try.prog 82 W tb (T.map tkv)) (by kernel_rfl) (by first | with_reducible exact ⟨c5, r23, hSd.kt⟩ | with_reducible exact HK23.out _ hba | with_reducible exact HK23.out _ hbb) (fun _ => ?_)
  refine wpAnyH_take (i := 0) (oi := ({ dst := some 24, op := Op.move (Operand.tmp 0), type := 25, pos := _, after := #[], guard := none } : Oper)) (v := ?_) rfl (by kernel_rfl) (by kernel_rfl) (by kernel_rfl) (fun _ _ _ h => h) (Or.inl ⟨by rfl, ?_⟩) (by first | with_reducible exact ⟨c5, r23, hSd.kt⟩ | with_reducible exact HK23.out _ hba | with_reducible exact HK23.out _ hbb) ?_
  rotate_left
  · intro w hSw
    try dsimp only at hSw
    go_simp
    try with_reducible rfl
  try simp only [Act.put, List.setIfInBounds_toArray, List.set_cons_zero, List.set_cons_succ]
  refine wpAnyH_take (i := 1) (oi := ({ dst := some 25, op := Op.nilCheck (Operand.tmp 24), type := 0, pos := _, after := #[{ on := 0, ground := Ground.data }], guard := none } : Oper)) (v := ?_) rfl (by kernel_rfl) (by kernel_rfl) (by kernel_rfl) (fun _ _ _ h => h) (Or.inl ⟨by rfl, ?_⟩) (by first | with_reducible exact ⟨c5, r23, hSd.kt⟩ | with_reducible exact HK23.out _ hba | with_reducible exact HK23.out _ hbb) ?_
  rotate_left
  · intro w hSw
    try dsimp only at hSw
    go_simp
    try with_reducible rfl
  try simp only [Act.put, List.setIfInBounds_toArray, List.set_cons_zero, List.set_cons_succ]
  refine wpAnyH_take (i := 2) (oi := ({ dst := some 26, op := Op.fieldAddr 81 (Operand.tmp 25) 5, type := 0, pos := _, after := #[{ on := 1, ground := Ground.data }], guard := none } : Oper)) (v := ?_) rfl (by kernel_rfl) (by kernel_rfl) (by kernel_rfl) (fun _ _ _ h => h) (Or.inl ⟨by rfl, ?_⟩) (by first | with_reducible exact ⟨c5, r23, hSd.kt⟩ | with_reducible exact HK23.out _ hba | with_reducible exact HK23.out _ hbb) ?_
  rotate_left
  · intro w hSw
    try dsimp only at hSw
    go_simp
    try with_reducible rfl
  try simp only [Act.put, List.setIfInBounds_toArray, List.set_cons_zero, List.set_cons_succ]
  refine wpAnyH_take (i := 3) (oi := ({ dst := some 27, op := Op.load 78 (Operand.tmp 26), type := 78, pos := _, after := #[{ on := 2, ground := Ground.data }], guard := none } : Oper)) (v := ?_) rfl (by kernel_rfl) (by kernel_rfl) (by kernel_rfl) (fun _ _ _ h => h) (Or.inl ⟨by rfl, ?_⟩) (by first | with_reducible exact ⟨c5, r23, hSd.kt⟩ | with_reducible exact HK23.out _ hba | with_reducible exact HK23.out _ hbb) ?_
  rotate_left
  · intro w hSw
    try dsimp only at hSw
    go_simp
    try with_reducible rfl
  try simp only [Act.put, List.setIfInBounds_toArray, List.set_cons_zero, List.set_cons_succ]
  refine wpAnyH_take (i := 4) (oi := ({ dst := some 28, op := Op.fieldAddr 71 (Operand.tmp 6) 0, type := 0, pos := _, after := #[], guard := none } : Oper)) (v := ?_) rfl (by kernel_rfl) (by kernel_rfl) (by kernel_rfl) (fun _ _ _ h => h) (Or.inl ⟨by rfl, ?_⟩) (by first | with_reducible exact ⟨c5, r23, hSd.kt⟩ | with_reducible exact HK23.out _ hba | with_reducible exact HK23.out _ hbb) ?_
  rotate_left
  · intro w hSw
    try dsimp only at hSw
    go_simp
    try with_reducible rfl
  try simp only [Act.put, List.setIfInBounds_toArray, List.set_cons_zero, List.set_cons_succ]
  refine wpAnyH_take (i := 5) (oi := ({ dst := some 29, op := Op.load 69 (Operand.tmp 28), type := 69, pos := _, after := #[{ on := 4, ground := Ground.data }], guard := none } : Oper)) (v := (.agg ((padT l).map (Value.int .u8)).toArray)) rfl (by kernel_rfl) (by kernel_rfl) (by kernel_rfl) (fun _ _ _ h => h) (yieldsIf_load_mid (by rfl) 69 (.tmp 28) rfl kb 0 rfl ((padT l).map (Value.int .u8)) _ (fun _ h => h.2.1) Try.underlying69 rfl (by rw [info69, List.length_map, hpl])) (by first | with_reducible exact ⟨c5, r23, hSd.kt⟩ | with_reducible exact HK23.out _ hba | with_reducible exact HK23.out _ hbb) ?_
  try simp only [Act.put, List.setIfInBounds_toArray, List.set_cons_zero, List.set_cons_succ]
  refine wpAnyH_take (i := 6) (oi := ({ dst := some 30, op := Op.lookup 78 (Operand.tmp 27) (Operand.tmp 29) true, type := 57, pos := _, after := #[{ on := 3, ground := Ground.data }, { on := 5, ground := Ground.data }], guard := none } : Oper)) (v := (.tuple #[.agg #[.int .u64 ta, .int .u64 tn], .bool tf])) rfl (by kernel_rfl) (by kernel_rfl) (by kernel_rfl) (fun _ _ _ h => h) (yieldsIf_look (by rfl) 78 (.tmp 27) (.tmp 29) true rfl (.map (some tb)) (.agg (trkC (padT l))) rfl rfl _ (fun W h => HLK.out W h.2.2)) (by first | with_reducible exact ⟨c5, r23, hSd.kt⟩ | with_reducible exact HK23.out _ hba | with_reducible exact HK23.out _ hbb) ?_
  try simp only [Act.put, List.setIfInBounds_toArray, List.set_cons_zero, List.set_cons_succ]
  refine wpAnyH_take (i := 7) (oi := ({ dst := some 23, op := Op.move (Operand.tmp 30), type := 57, pos := _, after := #[{ on := 6, ground := Ground.data }], guard := none } : Oper)) (v := ?_) rfl (by kernel_rfl) (by kernel_rfl) (by kernel_rfl) (fun _ _ _ h => h) (Or.inl ⟨by rfl, ?_⟩) (by first | with_reducible exact ⟨c5, r23, hSd.kt⟩ | with_reducible exact HK23.out _ hba | with_reducible exact HK23.out _ hbb) ?_
  rotate_left
  · intro w hSw
    try dsimp only at hSw
    go_simp
    try with_reducible rfl
  try simp only [Act.put, List.setIfInBounds_toArray, List.set_cons_zero, List.set_cons_succ]
  refine wpAnyH_take (i := 8) (oi := ({ dst := some 31, op := Op.extract (Operand.tmp 23) 0, type := 33, pos := _, after := #[{ on := 7, ground := Ground.data }], guard := none } : Oper)) (v := ?_) rfl (by kernel_rfl) (by kernel_rfl) (by kernel_rfl) (fun _ _ _ h => h) (Or.inl ⟨by rfl, ?_⟩) (by first | with_reducible exact ⟨c5, r23, hSd.kt⟩ | with_reducible exact HK23.out _ hba | with_reducible exact HK23.out _ hbb) ?_
  rotate_left
  · intro w hSw
    try dsimp only at hSw
    go_simp
    try with_reducible rfl
  try simp only [Act.put, List.setIfInBounds_toArray, List.set_cons_zero, List.set_cons_succ]
  refine wpAnyH_take (i := 9) (oi := ({ dst := some 32, op := Op.extract (Operand.tmp 23) 1, type := 4, pos := _, after := #[{ on := 7, ground := Ground.data }, { on := 11, ground := Ground.gcOnly Departure.lateStores }], guard := none } : Oper)) (v := ?_) rfl (by kernel_rfl) (by kernel_rfl) (by kernel_rfl) (fun _ _ _ h => h) (Or.inl ⟨by rfl, ?_⟩) (by first | with_reducible exact ⟨c5, r23, hSd.kt⟩ | with_reducible exact HK23.out _ hba | with_reducible exact HK23.out _ hbb) ?_
  rotate_left
  · intro w hSw
    try dsimp only at hSw
    go_simp
    try with_reducible rfl
  try simp only [Act.put, List.setIfInBounds_toArray, List.set_cons_zero, List.set_cons_succ]
  refine wpAnyH_ready (rs := [10]) (by kernel_rfl) (by simp) ?_
  refine AllReadyH.cons (o := ({ dst := some 8, op := Op.alloc 33, type := 0, pos := _, after := #[], guard := none } : Oper)) rfl (fun K hK => ?_) AllReadyH.nil
  go_simp
  refine hK.out _ _ (by first | with_reducible exact ⟨c5, r23, hSd.kt⟩ | with_reducible exact HK23.out _ hba | with_reducible exact HK23.out _ hbb) (fun _ => ?_)
  clear hK K
  try simp only [Act.put, List.setIfInBounds_toArray, List.set_cons_zero, List.set_cons_succ]
  refine wpAnyH_ready (rs := [11]) (by kernel_rfl) (by simp) ?_
  refine AllReadyH.cons (o := ({ dst := none, op := Op.store 33 (Operand.tmp 8) (Operand.tmp 31), type := 0, pos := _, after := #[{ on := 10, ground := Ground.data }, { on := 8, ground := Ground.data }, { on := 0, ground := Ground.phase }, { on := 1, ground := Ground.phase }, { on := 2, ground := Ground.phase }, { on := 3, ground := Ground.phase }, { on := 4, ground := Ground.phase }, { on := 5, ground := Ground.phase }, { on := 6, ground := Ground.phase }, { on := 7, ground := Ground.phase }, { on := 8, ground := Ground.phase }, { on := 9, ground := Ground.textOnly Departure.lateStores }, { on := 10, ground := Ground.phase }], guard := none } : Oper)) rfl (fun K hK => ?_) AllReadyH.nil
  go_simp
  refine hK.out _ _ (by first | with_reducible exact ⟨c5, r23, hSd.kt⟩ | with_reducible exact HK23.out _ hba | with_reducible exact HK23.out _ hbb) (fun _ => ?_)
  clear hK K
  try simp only [Act.put, List.setIfInBounds_toArray, List.set_cons_zero, List.set_cons_succ]
  refine wpAnyH_take (i := 12) (oi := ({ dst := some 9, op := Op.assign (Operand.tmp 32), type := 4, pos := _, after := #[{ on := 9, ground := Ground.data }, { on := 11, ground := Ground.chain }, { on := 0, ground := Ground.phase }, { on := 1, ground := Ground.phase }, { on := 2, ground := Ground.phase }, { on := 3, ground := Ground.phase }, { on := 4, ground := Ground.phase }, { on := 5, ground := Ground.phase }, { on := 6, ground := Ground.phase }, { on := 7, ground := Ground.phase }, { on := 8, ground := Ground.phase }, { on := 9, ground := Ground.phase }, { on := 10, ground := Ground.phase }, { on := 11, ground := Ground.phase }], guard := none } : Oper)) (v := ?_) rfl (by kernel_rfl) (by kernel_rfl) (by kernel_rfl) (fun _ _ _ h => h) (Or.inl ⟨by rfl, ?_⟩) (by first | with_reducible exact ⟨c5, r23, hSd.kt⟩ | with_reducible exact HK23.out _ hba | with_reducible exact HK23.out _ hbb) ?_
  rotate_left
  · intro w hSw
    try dsimp only at hSw
    go_simp
    try with_reducible rfl
  try simp only [Act.put, List.setIfInBounds_toArray, List.set_cons_zero, List.set_cons_succ]
  refine wpAnyH_done (by kernel_rfl) ?_ _
  go_upto_region 5 with fail
  refine wp_world (fun wz => SX wz B sb lb zb tb lv room used E Z T ∧ Blk wz w.heap.size 33 #[.int .u64 0, .int .u64 0] ∧ Blk wz w3.heap.size 33 #[.int .u64 ta, .int .u64 tn] ∧ Below w.heap.size w wz) ⟨hS.kept hbc, hR.same hbc, (show Blk (w3.alloc (.cells #[.int .u64 ta, .int .u64 tn] 33)).drew w3.heap.size 33 #[.int .u64 ta, .int .u64 tn] from Blk.new w3 33 #[.int .u64 ta, .int .u64 tn]), hb.trans (hbc.mono hb.size)⟩ ?_
  obtain ⟨pb, hpb⟩ : ∃ pb, pb = w3.heap.size := ⟨_, rfl⟩
  rw [← hpb]
  clear hS hR hV hb hSd c5 r23 HK23 hba hbb hbc HLK hpb
  rintro w4 ⟨hS, hR, hP, hb⟩
  have p0 : World.cell? w4 ⟨pb, 0, none⟩ = some (.int .u64 ta) := hP.cell 0
  have p1 : World.cell? w4 ⟨pb, 1, none⟩ = some (.int .u64 tn) := hP.cell 1
  go_wp2_with (first | (refine wpList_store_row rfl _ _ _ rfl w.heap.size #[.int .u64 ta, .int .u64 tn] rfl rfl 33 #[.int .u64 0, .int .u64 0] hR (by rw [infoPL]; rfl) rfl (by simp [Value.oneCell']) ?_) | fail)
  refine bodyPost_ret (v := (.tuple #[.agg #[.int .u64 ta, .int .u64 tn], .bool tf])) (by exact results_row2 Try.results20 _ _ rfl (Blk.row hR #[.int .u64 ta, .int .u64 tn]) Try.underlying33 rfl (by rw [infoPL]; rfl)) rfl ?_
  exact ⟨rfl, ⟨lv, E, hE'.out, by rw [← HU.out, ← HZ.out, ← HT.out]; exact hS.by_ hR (row_grown _ _ _) (by decide) (by decide) (by decide)⟩, below_row hb (by omega) _⟩
theorem last_any (B sb lb zb tb : Nat) (v : Value) (room : Int) (l : List Int) (s : PS) (w : World) (hH : HS w B sb lb zb tb room s) (hv : Rd w .u8 v l) (hk : BytesOk l) (hll : l.length ≤ 1000000) (ta tn : Int) (tf : Bool) (hgv : lastV (plast s l) = (ta, tn, tf)) :
    Calls Try.prog 20 #[.pointer (some ⟨sb, 0, none⟩), v] w fun e w' => e = .returned (.tuple #[.agg #[.int .u64 ta, .int .u64 tn], .bool tf]) ∧ HS w' B sb lb zb tb room s ∧ Below w.heap.size w w' := by
  by_cases hne : nameE l = 0
  · have e1 : plast s l = tget s.T (padT l) := by unfold plast; rw [if_neg (by simpa using hne)]
    rw [e1] at hgv
    exact last_ok B sb lb zb tb v room l s w hH hv hk hll hne ta tn tf hgv
  · have e1 : plast s l = none := by unfold plast; rw [if_pos hne]
    rw [e1] at hgv
    simp only [lastV, Prod.mk.injEq] at hgv
    obtain ⟨rfl, rfl, rfl⟩ := hgv
    exact last_bad B sb lb zb tb v room l s w hH hv hk hll hne
theorem drop_any (B sb lb zb tb : Nat) (v : Value) (room : Int) (l : List Int) (s : PS) (w : World) (hH : HS w B sb lb zb tb room s) (hv : Rd w .u8 v l) (hk : BytesOk l) (hll : l.length ≤ 1000000) (hok : s.Ok room) (hroom : room ≤ 1048576) :
    Calls Try.prog 19 #[.pointer (some ⟨sb, 0, none⟩), v] w fun e w' => e = .returned (.tuple #[]) ∧ HS w' B sb lb zb tb room (if nameE l = 0 then pdrop s (padT l) else s) ∧ KX lb zb tb w w' ∧ Below B w w' := by
  by_cases hne : nameE l = 0
  · rw [if_pos hne]; exact drop_ok B sb lb zb tb v room l s w hH hv hk hll hok hroom hne
  · rw [if_neg hne]
    have hBw := hH.base
    refine (drop_bad B sb lb zb tb v room l s w hH hv hk hll hne).mono ?_
    rintro e w' ⟨rfl, h1, h2⟩
    exact ⟨rfl, h1, KX.of h2, h2.mono hBw⟩

end Go.Proofs.Ytiaabbflchdcbaa
