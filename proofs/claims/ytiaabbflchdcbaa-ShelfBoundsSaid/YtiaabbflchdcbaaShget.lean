/-
  Get. No condition.
-/
import Derived.Test.YtiaabbflchdcbaaSapi
namespace Go.Proofs.Ytiaabbflchdcbaa
open Go.RowKit
set_option linter.unusedVariables false
set_option linter.unusedSimpArgs false

/-- What Get hands back. -/
def getV (o : Option En) : Int × Int × Int × List Int × Bool := match o with
  | none => (0, 0, 0, [], false)
  | some y => (y.g, y.n, y.p, y.d, true)
theorem SX.olook {w : World} {B sb lb zb tb : Nat} {lv : Value} {room used : Int} {E : List (En × Value)} {Z : List (Lot × Int)} {T : List (List Int × Int × Int)} {x : List Int} {g n : Int} (h : SX w B sb lb zb tb lv room used E Z T) (hx : T32 x) (hg : U64 g) (hn : U64 n) :
    ∃ (g' n' p' : Int) (d' : List Int) (A : Option Addr) (c : Nat) (ok : Bool), (∀ W, KM Try.prog 71 W lb (E.map ekv) → (Instr.lookup 76 (.map (some lb)) (.agg (keyC x g n)) true).run Try.prog W = .ok (.tuple #[.agg #[.int .u64 g', .int .u64 n', .int .u8 p', .bool false, .slice A d'.length c], .bool ok]) W) ∧ RdT w (.slice A d'.length c) d' ∧ getV (eget (E.map (·.1)) x g n) = (g', n', p', d', ok) := by
  cases e : eget (E.map (·.1)) x g n with
  | none =>
    refine ⟨0, 0, 0, [], none, 0, false, fun W hW => ?_, RdT.nil w, rfl⟩
    have := hW.look_no law71 (t := 76) Try.underlying76 (obj_zero W) (key := .agg (keyC x g n)) (ok_key hx hg hn) (fun y hy e2 => by
      obtain ⟨z, hz, rfl⟩ := List.mem_map.1 hy
      exact eget_none e z.1 (List.mem_map.2 ⟨z, hz, rfl⟩) (key_inj (h.ok z hz).t hx (by injection e2))) true
    simp only [if_true] at this
    exact this
  | some y =>
    obtain ⟨hy, h1, h2, h3⟩ := eget_some e
    obtain ⟨z, hz, rfl⟩ := List.mem_map.1 hy
    obtain ⟨A, c, hA⟩ := (h.dat z hz).form
    refine ⟨z.1.g, z.1.n, z.1.p, z.1.d, A, c, true, fun W hW => ?_, hA ▸ h.dat z hz, rfl⟩
    have := hW.look_yes law71 (t := 76) Try.underlying76 (key := .agg (keyC x g n)) (v := (ekv z).2) (List.mem_map.2 ⟨z, hz, by rw [← h1, ← h2, ← h3]; rfl⟩) true
    simp only [if_true] at this
    rw [this, ← hA]
    rfl
/-- A block of another kind turns. -/
theorem SX.by_ {w w' : World} {B sb lb zb tb : Nat} {lv : Value} {room used : Int} {E : List (En × Value)} {Z : List (Lot × Int)} {T : List (List Int × Int × Int)} (h : SX w B sb lb zb tb lv room used E Z T) {k : Nat} {t : TypeId} {cs : Array Value} (hk : Blk w k t cs) (hg : w.grownBy w' (some k)) (h1 : t ≠ 81) (h2 : t ≠ 84) (h3 : t ≠ 5) : SX w' B sb lb zb tb lv room used E Z T :=
  { h with blk := h.blk.grown hg (by simpa using Ne.symm (hk.ne_ h.blk h1)), kl := h.kl.kept hg (by simpa using Ne.symm (blk_km_ne hk h.kl)), lr := own_grown h.lr hg (.inr (own_blk_ne h.lr hk (Ne.symm h2))), kz := h.kz.kept hg (by simpa using Ne.symm (blk_km_ne hk h.kz)), kt := h.kt.kept hg (by simpa using Ne.symm (blk_km_ne hk h.kt)), dat := fun x hx => rdt_grown (h.dat x hx) hk h3 hg }
theorem o5_one (a b c : Int) (d : Bool) (A : Option Addr) (n k : Nat) : (#[Value.int .u64 a, .int .u64 b, .int .u8 c, .bool d, .slice A n k] : Array Value).all (·.oneCell') = true := by simp [Value.oneCell']
theorem z_own (w : World) : w.ownsRow w.heap.size 5 1 (.slice none 0 0) 0 [] := by
  exact ⟨by simp, .inl ⟨rfl, rfl⟩⟩
set_option maxHeartbeats 4000000 in
set_option maxRecDepth 100000 in
theorem get_bad (B sb lb zb tb : Nat) (v : Value) (room g n : Int) (l : List Int) (s : PS) (w : World) (hH : HS w B sb lb zb tb room s) (hv : Rd w .u8 v l) (hk : BytesOk l) (hll : l.length ≤ 1000000) (hne : nameE l ≠ 0) :
    Calls Try.prog 13 #[.pointer (some ⟨sb, 0, none⟩), v, .agg #[.int .u64 g, .int .u64 n]] w fun e w' => e = .returned (.tuple #[.agg #[.int .u64 0, .int .u64 0, .int .u8 0, .bool false, .slice none 0 0], .bool false]) ∧ HS w' B sb lb zb tb room s ∧ Below w.heap.size w w' := by
  obtain ⟨lv, E, hE, hS⟩ := hH
  have hE' := Lib.hid hE
  clear hE
  obtain ⟨used, hu⟩ : ∃ used, used = s.used := ⟨_, rfl⟩
  obtain ⟨Z, hZ⟩ : ∃ Z, Z = s.Z := ⟨_, rfl⟩
  obtain ⟨T, hT⟩ : ∃ T, T = s.T := ⟨_, rfl⟩
  rw [← hu, ← hZ, ← hT] at hS
  have HU := Lib.hid hu
  have HZ := Lib.hid hZ
  have HT := Lib.hid hT
  clear hu hZ hT
  have hP0 := (Blk.new w 33 #[.int .u64 g, .int .u64 n]).alloc (.cells #[.int .u64 0, .int .u64 0, .int .u8 0, .bool false, .slice none 0 0] 35)
  have hR0 : Blk ((w.alloc (.cells #[.int .u64 g, .int .u64 n] 33)).alloc (.cells #[.int .u64 0, .int .u64 0, .int .u8 0, .bool false, .slice none 0 0] 35)) (w.heap.size + 1) 35 #[.int .u64 0, .int .u64 0, .int .u8 0, .bool false, .slice none 0 0] := blk_new_at (by simp)
  have hb0 : Below w.heap.size w ((w.alloc (.cells #[.int .u64 g, .int .u64 n] 33)).alloc (.cells #[.int .u64 0, .int .u64 0, .int .u8 0, .bool false, .slice none 0 0] 35)) := ((Below.refl w.heap.size w).alloc (Nat.le_refl _) _).alloc (by simp) _
  have hS0 := hS.kept hb0
  have hv0 := hv.below hb0
  obtain ⟨vA, vc, rfl⟩ := hv.form
  go_enter Try.func13, Try.ntmps13
  go_upto_region 1 with fail
  refine wp_world (fun wz => SX wz B sb lb zb tb lv room used E Z T ∧ Blk wz w.heap.size 33 #[.int .u64 g, .int .u64 n] ∧ Blk wz (w.heap.size + 1) 35 #[.int .u64 0, .int .u64 0, .int .u8 0, .bool false, .slice none 0 0] ∧ Rd wz .u8 (.slice vA l.length vc) l ∧ Below w.heap.size w wz) ⟨hS0, hP0, hR0, hv0, hb0⟩ ?_
  clear hS0 hP0 hR0 hv0 hb0 hS hv
  rintro w1 ⟨hS, hP, hR, hv, hb⟩
  have q0 : World.cell? w1 ⟨w.heap.size, 0, none⟩ = some (.int .u64 g) := hP.cell 0
  have q1 : World.cell? w1 ⟨w.heap.size, 1, none⟩ = some (.int .u64 n) := hP.cell 1
  have hnm := name_any (.slice vA l.length vc) l g n w1 hv hk (by omega)
  have hks := keyR_size (g := g) (n := n) hk
  obtain ⟨KV, hKV⟩ : ∃ KV, KV = keyR l g n := ⟨_, rfl⟩
  have hk1 := keyR_one l g n
  rw [← hKV] at hnm hks hk1
  have HKV := Lib.hid hKV
  clear hKV
  obtain ⟨ec, hec⟩ : ∃ ec, ec = nameE l := ⟨_, rfl⟩
  rw [← hec] at hnm
  have HEC := Lib.hid hec
  clear hec
  go_upto_region 2 with (first | (go_at_call 29; refine hnm.mono ?_; rintro e w2 ⟨rfl, hb2⟩) | (refine wpList_store_new rfl 71 (.tmp 8) (.tmp 16) rfl 71 _ KV rfl rfl (by rw [info71, hks]) (by rw [hks]; rfl) hk1 ?_) | fail)
  clear hnm q0 q1
  have hba : Below w2.heap.size w2 (w2.alloc (.cells KV 71)) := (Below.refl _ _).alloc (Nat.le_refl _) _
  refine wp_world (fun wz => SX wz B sb lb zb tb lv room used E Z T ∧ Blk wz (w.heap.size + 1) 35 #[.int .u64 0, .int .u64 0, .int .u8 0, .bool false, .slice none 0 0] ∧ Blk wz w2.heap.size 71 KV ∧ Below w.heap.size w wz) ⟨(hS.kept hb2).kept hba, (hR.same hb2).same hba, Blk.new w2 71 KV, (hb.trans (hb2.mono hb.size)).trans (hba.mono (Nat.le_trans hb.size hb2.size))⟩ ?_
  obtain ⟨kb, hkb⟩ : ∃ kb, kb = w2.heap.size := ⟨_, rfl⟩
  have hkw : w.heap.size + 1 < kb := by rw [hkb]; exact (hR.same hb2).lt
  rw [← hkb]
  clear hba hS hP hR hv hb hb2 hkb
  rintro w3 ⟨hS, hR, hV, hb⟩
  have hz : (ec == 0) = false := by rw [HEC.out]; simpa using hne
  clear hne
  go_wp2_with (first | (refine wpList_store_row rfl _ _ _ rfl (w.heap.size + 1) #[.int .u64 0, .int .u64 0, .int .u8 0, .bool false, .slice none 0 0] rfl rfl 35 #[.int .u64 0, .int .u64 0, .int .u8 0, .bool false, .slice none 0 0] hR (by rw [infoOB]; rfl) rfl (o5_one _ _ _ _ _ _ _) ?_) | fail)
  refine bodyPost_ret (v := (.tuple #[.agg #[.int .u64 0, .int .u64 0, .int .u8 0, .bool false, .slice none 0 0], .bool false])) (by exact results_row2 Try.results13 _ _ rfl (Blk.row hR #[.int .u64 0, .int .u64 0, .int .u8 0, .bool false, .slice none 0 0]) Try.underlying35 rfl (by rw [infoOB]; rfl)) rfl ?_
  exact ⟨rfl, ⟨lv, E, hE'.out, by rw [← HU.out, ← HZ.out, ← HT.out]; exact hS.by_ hR (row_grown _ _ _) (by decide) (by decide) (by decide)⟩, below_row hb (by omega) _⟩
set_option maxHeartbeats 4000000 in
set_option maxRecDepth 100000 in
theorem get_ok (B sb lb zb tb : Nat) (v : Value) (room g n : Int) (l : List Int) (s : PS) (w : World) (hH : HS w B sb lb zb tb room s) (hv : Rd w .u8 v l) (hk : BytesOk l) (hll : l.length ≤ 1000000) (hg : U64 g) (hn : U64 n) (hne : nameE l = 0) (g' n' p' : Int) (d' : List Int) (ok : Bool) (hgv : getV (eget s.E (padT l) g n) = (g', n', p', d', ok)) (hdl : d'.length ≤ 2000000) :
    Calls Try.prog 13 #[.pointer (some ⟨sb, 0, none⟩), v, .agg #[.int .u64 g, .int .u64 n]] w fun e w' => ∃ dv, e = .returned (.tuple #[.agg #[.int .u64 g', .int .u64 n', .int .u8 p', .bool false, dv], .bool ok]) ∧ w'.ownsRow w.heap.size 5 1 dv d'.length (d'.map (Value.int .u8)) ∧ HS w' B sb lb zb tb room s ∧ Below w.heap.size w w' := by
  have HGV := Lib.hid hgv
  have hpt := padT32 hne hk
  clear hgv
  obtain ⟨lv, E, hE, hS⟩ := hH
  have hE' := Lib.hid hE
  clear hE
  obtain ⟨used, hu⟩ : ∃ used, used = s.used := ⟨_, rfl⟩
  obtain ⟨Z, hZ⟩ : ∃ Z, Z = s.Z := ⟨_, rfl⟩
  obtain ⟨T, hT⟩ : ∃ T, T = s.T := ⟨_, rfl⟩
  rw [← hu, ← hZ, ← hT] at hS
  have HU := Lib.hid hu
  have HZ := Lib.hid hZ
  have HT := Lib.hid hT
  clear hu hZ hT
  have hP0 := (Blk.new w 33 #[.int .u64 g, .int .u64 n]).alloc (.cells #[.int .u64 0, .int .u64 0, .int .u8 0, .bool false, .slice none 0 0] 35)
  have hR0 : Blk ((w.alloc (.cells #[.int .u64 g, .int .u64 n] 33)).alloc (.cells #[.int .u64 0, .int .u64 0, .int .u8 0, .bool false, .slice none 0 0] 35)) (w.heap.size + 1) 35 #[.int .u64 0, .int .u64 0, .int .u8 0, .bool false, .slice none 0 0] := blk_new_at (by simp)
  have hb0 : Below w.heap.size w ((w.alloc (.cells #[.int .u64 g, .int .u64 n] 33)).alloc (.cells #[.int .u64 0, .int .u64 0, .int .u8 0, .bool false, .slice none 0 0] 35)) := ((Below.refl w.heap.size w).alloc (Nat.le_refl _) _).alloc (by simp) _
  have hS0 := hS.kept hb0
  have hv0 := hv.below hb0
  obtain ⟨vA, vc, rfl⟩ := hv.form
  go_enter Try.func13, Try.ntmps13
  go_upto_region 1 with fail
  refine wp_world (fun wz => SX wz B sb lb zb tb lv room used E Z T ∧ Blk wz w.heap.size 33 #[.int .u64 g, .int .u64 n] ∧ Blk wz (w.heap.size + 1) 35 #[.int .u64 0, .int .u64 0, .int .u8 0, .bool false, .slice none 0 0] ∧ Rd wz .u8 (.slice vA l.length vc) l ∧ Below w.heap.size w wz) ⟨hS0, hP0, hR0, hv0, hb0⟩ ?_
  clear hS0 hP0 hR0 hv0 hb0 hS hv
  rintro w1 ⟨hS, hP, hR, hv, hb⟩
  have q0 : World.cell? w1 ⟨w.heap.size, 0, none⟩ = some (.int .u64 g) := hP.cell 0
  have q1 : World.cell? w1 ⟨w.heap.size, 1, none⟩ = some (.int .u64 n) := hP.cell 1
  have hnm := name_any (.slice vA l.length vc) l g n w1 hv hk (by omega)
  have hks := keyR_size (g := g) (n := n) hk
  obtain ⟨KV, hKV⟩ : ∃ KV, KV = keyR l g n := ⟨_, rfl⟩
  have hk1 := keyR_one l g n
  rw [← hKV] at hnm hks hk1
  have HKV := Lib.hid hKV
  clear hKV
  obtain ⟨ec, hec⟩ : ∃ ec, ec = nameE l := ⟨_, rfl⟩
  rw [← hec] at hnm
  have HEC := Lib.hid hec
  clear hec
  go_upto_region 2 with (first | (go_at_call 29; refine hnm.mono ?_; rintro e w2 ⟨rfl, hb2⟩) | (refine wpList_store_new rfl 71 (.tmp 8) (.tmp 16) rfl 71 _ KV rfl rfl (by rw [info71, hks]) (by rw [hks]; rfl) hk1 ?_) | fail)
  clear hnm q0 q1
  have hba : Below w2.heap.size w2 (w2.alloc (.cells KV 71)) := (Below.refl _ _).alloc (Nat.le_refl _) _
  refine wp_world (fun wz => SX wz B sb lb zb tb lv room used E Z T ∧ Blk wz (w.heap.size + 1) 35 #[.int .u64 0, .int .u64 0, .int .u8 0, .bool false, .slice none 0 0] ∧ Blk wz w2.heap.size 71 KV ∧ Below w.heap.size w wz) ⟨(hS.kept hb2).kept hba, (hR.same hb2).same hba, Blk.new w2 71 KV, (hb.trans (hb2.mono hb.size)).trans (hba.mono (Nat.le_trans hb.size hb2.size))⟩ ?_
  obtain ⟨kb, hkb⟩ : ∃ kb, kb = w2.heap.size := ⟨_, rfl⟩
  have hkw : w.heap.size + 1 < kb := by rw [hkb]; exact (hR.same hb2).lt
  rw [← hkb]
  clear hba hS hP hR hv hb hb2 hkb
  rintro w3 ⟨hS, hR, hV, hb⟩
  have he0 : ec = 0 := by rw [HEC.out]; exact hne
  subst he0
  have hKe : KV = keyC (padT l) g n := by rw [HKV.out, keyR, if_pos hne]
  obtain ⟨g1, n1, p1, d1, oA, oc, ok1, hlk, hrd, hgv⟩ := hS.olook hpt hg hn
  rw [hE'.out, HGV.out] at hgv
  simp only [Prod.mk.injEq] at hgv
  obtain ⟨rfl, rfl, rfl, rfl, rfl⟩ := hgv
  rw [← hKe] at hlk
  have HLK := Lib.hid hlk
  clear hlk hKe hne
  have c2 : World.cell? w3.drew ⟨sb, 2, none⟩ = some (.map (some lb)) := hS.blk.cell 2
  have hSd : SX w3.drew B sb lb zb tb lv room used E Z T := { hS with blk := hS.blk }
  have r6 : w3.drew.rangeAt kb 0 KV.toList := rows_at (show Blk w3.drew kb 71 KV from hV)
  have HKP : Hid (∀ W, Below w3.heap.size w3 W → World.cell? W.drew ⟨sb, 2, none⟩ = some (.map (some lb)) ∧ W.drew.rangeAt kb 0 KV.toList ∧ KM Try.prog 71 W.drew lb (E.map ekv)) := Lib.hid (fun W hW => by
    have h1 := hS.kept hW
    have h2 := hV.same hW
    exact ⟨h1.blk.cell 2, rows_at h2, h1.kl⟩)
  have hba : Below w3.heap.size w3 (w3.alloc (.cells #[.int .u64 0, .int .u64 0, .int .u8 0, .bool false, .slice none 0 0] 35)) := (Below.refl _ _).alloc (Nat.le_refl _) _
  have hbb : Below w3.heap.size w3 (w3.alloc (.cells #[.int .u64 g', .int .u64 n', .int .u8 p', .bool false, .slice oA d'.length oc] 35)) := (Below.refl _ _).alloc (Nat.le_refl _) _
  have hbc : Below w3.heap.size w3 (w3.alloc (.cells #[.int .u64 g', .int .u64 n', .int .u8 p', .bool false, .slice oA d'.length oc] 35)).drew := below_drewN hbb 1
  go_upto_region 4 with fail
  refine wp_region_held_drew (S := fun W => World.cell? W ⟨sb, 2, none⟩ = some (.map (some lb)) ∧ W.rangeAt kb 0 KV.toList ∧ KM Try.prog 71 W lb (E.map ekv)) (by kernel_rfl) (by first | with_reducible exact ⟨c2, r6, hSd.kl⟩ | with_reducible exact HKP.out _ hba | with_reducible exact HKP.out _ hbb) (fun _ => ?_)
  refine wpAnyH_take (i := 0) (oi := ({ dst := some 26, op := Op.move (Operand.tmp 0), type := 25, pos := _, after := #[], guard := none } : Oper)) (v := ?_) rfl (by kernel_rfl) (by kernel_rfl) (by kernel_rfl) (fun _ _ _ h => h) (Or.inl ⟨by rfl, ?_⟩) (by first | with_reducible exact ⟨c2, r6, hSd.kl⟩ | with_reducible exact HKP.out _ hba | with_reducible exact HKP.out _ hbb) ?_
  rotate_left
  · intro w hSw
    try dsimp only at hSw
    go_simp
    try with_reducible rfl
  try simp only [Act.put, List.setIfInBounds_toArray, List.set_cons_zero, List.set_cons_succ]
  refine wpAnyH_take (i := 1) (oi := ({ dst := some 27, op := Op.nilCheck (Operand.tmp 26), type := 0, pos := _, after := #[{ on := 0, ground := Ground.data }], guard := none } : Oper)) (v := ?_) rfl (by kernel_rfl) (by kernel_rfl) (by kernel_rfl) (fun _ _ _ h => h) (Or.inl ⟨by rfl, ?_⟩) (by first | with_reducible exact ⟨c2, r6, hSd.kl⟩ | with_reducible exact HKP.out _ hba | with_reducible exact HKP.out _ hbb) ?_
  rotate_left
  · intro w hSw
    try dsimp only at hSw
    go_simp
    try with_reducible rfl
  try simp only [Act.put, List.setIfInBounds_toArray, List.set_cons_zero, List.set_cons_succ]
  refine wpAnyH_take (i := 2) (oi := ({ dst := some 28, op := Op.fieldAddr 81 (Operand.tmp 27) 2, type := 0, pos := _, after := #[{ on := 1, ground := Ground.data }], guard := none } : Oper)) (v := ?_) rfl (by kernel_rfl) (by kernel_rfl) (by kernel_rfl) (fun _ _ _ h => h) (Or.inl ⟨by rfl, ?_⟩) (by first | with_reducible exact ⟨c2, r6, hSd.kl⟩ | with_reducible exact HKP.out _ hba | with_reducible exact HKP.out _ hbb) ?_
  rotate_left
  · intro w hSw
    try dsimp only at hSw
    go_simp
    try with_reducible rfl
  try simp only [Act.put, List.setIfInBounds_toArray, List.set_cons_zero, List.set_cons_succ]
  refine wpAnyH_take (i := 3) (oi := ({ dst := some 29, op := Op.load 76 (Operand.tmp 28), type := 76, pos := _, after := #[{ on := 2, ground := Ground.data }], guard := none } : Oper)) (v := ?_) rfl (by kernel_rfl) (by kernel_rfl) (by kernel_rfl) (fun _ _ _ h => h) (Or.inl ⟨by rfl, ?_⟩) (by first | with_reducible exact ⟨c2, r6, hSd.kl⟩ | with_reducible exact HKP.out _ hba | with_reducible exact HKP.out _ hbb) ?_
  rotate_left
  · intro w hSw
    try dsimp only at hSw
    go_simp
    try with_reducible rfl
  try simp only [Act.put, List.setIfInBounds_toArray, List.set_cons_zero, List.set_cons_succ]
  refine wpAnyH_take (i := 4) (oi := ({ dst := some 30, op := Op.load 71 (Operand.tmp 8), type := 71, pos := _, after := #[], guard := none } : Oper)) (v := (.agg KV.toList.toArray)) rfl (by kernel_rfl) (by kernel_rfl) (by kernel_rfl) (fun _ _ _ h => h) (yieldsIf_load_mid (by rfl) 71 (.tmp 8) rfl kb 0 rfl KV.toList _ (fun _ h => h.2.1) Try.underlying71 rfl (by rw [info71, Array.length_toList, hks])) (by first | with_reducible exact ⟨c2, r6, hSd.kl⟩ | with_reducible exact HKP.out _ hba | with_reducible exact HKP.out _ hbb) ?_
  try simp only [Act.put, List.setIfInBounds_toArray, List.set_cons_zero, List.set_cons_succ]
  refine wpAnyH_take (i := 5) (oi := ({ dst := some 31, op := Op.lookup 76 (Operand.tmp 29) (Operand.tmp 30) true, type := 41, pos := _, after := #[{ on := 3, ground := Ground.data }, { on := 4, ground := Ground.data }], guard := none } : Oper)) (v := (.tuple #[.agg #[.int .u64 g', .int .u64 n', .int .u8 p', .bool false, .slice oA d'.length oc], .bool ok])) rfl (by kernel_rfl) (by kernel_rfl) (by kernel_rfl) (fun _ _ _ h => h) (yieldsIf_look (by rfl) 76 (.tmp 29) (.tmp 30) true rfl (.map (some lb)) (.agg KV) rfl rfl _ (fun W h => HLK.out W h.2.2)) (by first | with_reducible exact ⟨c2, r6, hSd.kl⟩ | with_reducible exact HKP.out _ hba | with_reducible exact HKP.out _ hbb) ?_
  try simp only [Act.put, List.setIfInBounds_toArray, List.set_cons_zero, List.set_cons_succ]
  refine wpAnyH_take (i := 6) (oi := ({ dst := some 25, op := Op.move (Operand.tmp 31), type := 41, pos := _, after := #[{ on := 5, ground := Ground.data }], guard := none } : Oper)) (v := ?_) rfl (by kernel_rfl) (by kernel_rfl) (by kernel_rfl) (fun _ _ _ h => h) (Or.inl ⟨by rfl, ?_⟩) (by first | with_reducible exact ⟨c2, r6, hSd.kl⟩ | with_reducible exact HKP.out _ hba | with_reducible exact HKP.out _ hbb) ?_
  rotate_left
  · intro w hSw
    try dsimp only at hSw
    go_simp
    try with_reducible rfl
  try simp only [Act.put, List.setIfInBounds_toArray, List.set_cons_zero, List.set_cons_succ]
  refine wpAnyH_take (i := 7) (oi := ({ dst := some 32, op := Op.extract (Operand.tmp 25) 0, type := 35, pos := _, after := #[{ on := 6, ground := Ground.data }], guard := none } : Oper)) (v := ?_) rfl (by kernel_rfl) (by kernel_rfl) (by kernel_rfl) (fun _ _ _ h => h) (Or.inl ⟨by rfl, ?_⟩) (by first | with_reducible exact ⟨c2, r6, hSd.kl⟩ | with_reducible exact HKP.out _ hba | with_reducible exact HKP.out _ hbb) ?_
  rotate_left
  · intro w hSw
    try dsimp only at hSw
    go_simp
    try with_reducible rfl
  try simp only [Act.put, List.setIfInBounds_toArray, List.set_cons_zero, List.set_cons_succ]
  refine wpAnyH_take (i := 8) (oi := ({ dst := some 33, op := Op.extract (Operand.tmp 25) 1, type := 4, pos := _, after := #[{ on := 6, ground := Ground.data }, { on := 10, ground := Ground.gcOnly Departure.lateStores }], guard := none } : Oper)) (v := ?_) rfl (by kernel_rfl) (by kernel_rfl) (by kernel_rfl) (fun _ _ _ h => h) (Or.inl ⟨by rfl, ?_⟩) (by first | with_reducible exact ⟨c2, r6, hSd.kl⟩ | with_reducible exact HKP.out _ hba | with_reducible exact HKP.out _ hbb) ?_
  rotate_left
  · intro w hSw
    try dsimp only at hSw
    go_simp
    try with_reducible rfl
  try simp only [Act.put, List.setIfInBounds_toArray, List.set_cons_zero, List.set_cons_succ]
  refine wpAnyH_ready (rs := [9]) (by kernel_rfl) (by simp) ?_
  refine AllReadyH.cons (o := ({ dst := some 10, op := Op.alloc 35, type := 0, pos := _, after := #[], guard := none } : Oper)) rfl (fun K hK => ?_) AllReadyH.nil
  go_simp
  refine hK.out _ _ (by first | with_reducible exact ⟨c2, r6, hSd.kl⟩ | with_reducible exact HKP.out _ hba | with_reducible exact HKP.out _ hbb) (fun _ => ?_)
  clear hK K
  try simp only [Act.put, List.setIfInBounds_toArray, List.set_cons_zero, List.set_cons_succ]
  refine wpAnyH_ready (rs := [10]) (by kernel_rfl) (by simp) ?_
  refine AllReadyH.cons (o := ({ dst := none, op := Op.store 35 (Operand.tmp 10) (Operand.tmp 32), type := 0, pos := _, after := #[{ on := 9, ground := Ground.data }, { on := 7, ground := Ground.data }, { on := 0, ground := Ground.phase }, { on := 1, ground := Ground.phase }, { on := 2, ground := Ground.phase }, { on := 3, ground := Ground.phase }, { on := 4, ground := Ground.phase }, { on := 5, ground := Ground.phase }, { on := 6, ground := Ground.phase }, { on := 7, ground := Ground.phase }, { on := 8, ground := Ground.textOnly Departure.lateStores }, { on := 9, ground := Ground.phase }], guard := none } : Oper)) rfl (fun K hK => ?_) AllReadyH.nil
  go_simp
  refine hK.out _ _ (by first | with_reducible exact ⟨c2, r6, hSd.kl⟩ | with_reducible exact HKP.out _ hba | with_reducible exact HKP.out _ hbb) (fun _ => ?_)
  clear hK K
  try simp only [Act.put, List.setIfInBounds_toArray, List.set_cons_zero, List.set_cons_succ]
  refine wpAnyH_take (i := 11) (oi := ({ dst := some 11, op := Op.assign (Operand.tmp 33), type := 4, pos := _, after := #[{ on := 8, ground := Ground.data }, { on := 10, ground := Ground.chain }, { on := 0, ground := Ground.phase }, { on := 1, ground := Ground.phase }, { on := 2, ground := Ground.phase }, { on := 3, ground := Ground.phase }, { on := 4, ground := Ground.phase }, { on := 5, ground := Ground.phase }, { on := 6, ground := Ground.phase }, { on := 7, ground := Ground.phase }, { on := 8, ground := Ground.phase }, { on := 9, ground := Ground.phase }, { on := 10, ground := Ground.phase }], guard := none } : Oper)) (v := ?_) rfl (by kernel_rfl) (by kernel_rfl) (by kernel_rfl) (fun _ _ _ h => h) (Or.inl ⟨by rfl, ?_⟩) (by first | with_reducible exact ⟨c2, r6, hSd.kl⟩ | with_reducible exact HKP.out _ hba | with_reducible exact HKP.out _ hbb) ?_
  rotate_left
  · intro w hSw
    try dsimp only at hSw
    go_simp
    try with_reducible rfl
  try simp only [Act.put, List.setIfInBounds_toArray, List.set_cons_zero, List.set_cons_succ]
  refine wpAnyH_done (by kernel_rfl) ?_ _
  go_upto_region 5 with fail
  refine wp_world (fun wz => SX wz B sb lb zb tb lv room used E Z T ∧ Blk wz (w.heap.size + 1) 35 #[.int .u64 0, .int .u64 0, .int .u8 0, .bool false, .slice none 0 0] ∧ Blk wz w3.heap.size 35 #[.int .u64 g', .int .u64 n', .int .u8 p', .bool false, .slice oA d'.length oc] ∧ RdT wz (.slice oA d'.length oc) d' ∧ Below w.heap.size w wz) ⟨hS.kept hbc, hR.same hbc, (show Blk (w3.alloc (.cells #[.int .u64 g', .int .u64 n', .int .u8 p', .bool false, .slice oA d'.length oc] 35)).drew w3.heap.size 35 #[.int .u64 g', .int .u64 n', .int .u8 p', .bool false, .slice oA d'.length oc] from Blk.new w3 35 #[.int .u64 g', .int .u64 n', .int .u8 p', .bool false, .slice oA d'.length oc]), hrd.below hbc, hb.trans (hbc.mono hb.size)⟩ ?_
  obtain ⟨ob, hob⟩ : ∃ ob, ob = w3.heap.size := ⟨_, rfl⟩
  have how : w.heap.size + 1 < ob := by rw [hob]; exact hR.lt
  rw [← hob]
  clear hS hR hV hb hSd c2 r6 HKP hba hbb hbc HLK hrd hob
  rintro w4 ⟨hS, hR, hO, hrd, hb⟩
  have hrd1 : Rd w4 .u8 (.slice oA d'.length oc) d' := hrd.1
  have o4 : World.cell? w4 ⟨ob, 4, none⟩ = some (.slice oA d'.length oc) := hO.cell 4
  go_upto_region 6 with (first | (go_at_call 33; (with_reducible refine (clone_any (.slice oA d'.length oc) d' w4 hrd1 (by omega)).mono ?_); rintro e w5 ⟨dv, rfl, hown, hb5⟩; obtain ⟨cA, cc, rfl, _⟩ := sl_of_own hown; have hO5 := hO.same hb5; have p4 : World.cell? w5 ⟨ob, 4, none⟩ = some (.slice oA d'.length oc) := hO5.cell 4; have f4 := hO5.frozen 4) | fail)
  have hown2 : w5.ownsRow w.heap.size 5 1 (.slice cA d'.length cc) d'.length (d'.map (Value.int .u8)) := own_base hown hb.size
  have hsz5 : w.heap.size ≤ ob := by omega
  refine wp_world (fun wz => SX wz B sb lb zb tb lv room used E Z T ∧ Blk wz (w.heap.size + 1) 35 #[.int .u64 0, .int .u64 0, .int .u8 0, .bool false, .slice none 0 0] ∧ Blk wz ob 35 #[.int .u64 g', .int .u64 n', .int .u8 p', .bool false, .slice cA d'.length cc] ∧ wz.ownsRow w.heap.size 5 1 (.slice cA d'.length cc) d'.length (d'.map (Value.int .u8)) ∧ Below w.heap.size w wz) ⟨((hS.kept hb5).sy.far hO5 (by decide) (by decide) (by decide) 4 _).sx rfl, (hR.same hb5).far (p := ⟨ob, 4, none⟩) (by show w.heap.size + 1 ≠ ob; omega) _, by simpa using hO5.set_ 4 (.slice cA d'.length cc), own_far hown2 (own_blk_ne hown2 hO5 (by decide)) _, (hb.trans (hb5.mono hb.size)).setCell (p := ⟨ob, 4, none⟩) hsz5 _⟩ ?_
  clear hS hR hO hrd hrd1 hb o4 hown hown2 hb5 hO5 p4 f4
  rintro w6 ⟨hS, hR, hO, hown, hb⟩
  have y0 : World.cell? w6 ⟨ob, 0, none⟩ = some (.int .u64 g') := hO.cell 0
  have yf0 := hO.frozen 0
  have y1 : World.cell? w6 ⟨ob, 1, none⟩ = some (.int .u64 n') := hO.cell 1
  have yf1 := hO.frozen 1
  have y2 : World.cell? w6 ⟨ob, 2, none⟩ = some (.int .u8 p') := hO.cell 2
  have yf2 := hO.frozen 2
  have y3 : World.cell? w6 ⟨ob, 3, none⟩ = some (.bool false) := hO.cell 3
  have yf3 := hO.frozen 3
  have y4 : World.cell? w6 ⟨ob, 4, none⟩ = some (.slice cA d'.length cc) := hO.cell 4
  have yf4 := hO.frozen 4
  go_wp2_with (first | (refine wpList_store_row rfl _ _ _ rfl (w.heap.size + 1) #[.int .u64 g', .int .u64 n', .int .u8 p', .bool false, .slice cA d'.length cc] rfl rfl 35 #[.int .u64 0, .int .u64 0, .int .u8 0, .bool false, .slice none 0 0] hR (by rw [infoOB]; rfl) rfl (o5_one _ _ _ _ _ _ _) ?_) | fail)
  refine bodyPost_ret (v := (.tuple #[.agg #[.int .u64 g', .int .u64 n', .int .u8 p', .bool false, .slice cA d'.length cc], .bool ok])) (by exact results_row2 Try.results13 _ _ rfl (Blk.row hR #[.int .u64 g', .int .u64 n', .int .u8 p', .bool false, .slice cA d'.length cc]) Try.underlying35 rfl (by rw [infoOB]; rfl)) rfl ?_
  exact ⟨_, rfl, own_grown hown (row_grown w6 (w.heap.size + 1) #[.int .u64 g', .int .u64 n', .int .u8 p', .bool false, .slice cA d'.length cc]) (.inr (own_blk_ne hown hR (by decide))), ⟨lv, E, hE'.out, by rw [← HU.out, ← HZ.out, ← HT.out]; exact hS.by_ hR (row_grown _ _ _) (by decide) (by decide) (by decide)⟩, below_row hb (by omega) _⟩
theorem PS.Ok.len {room : Int} {s : PS} (h : s.Ok room) {y : En} (hy : y ∈ s.E) : (y.d.length : Int) + 16 ≤ room := by
  have h1 := lsum_mem hy
  rw [← h.coh] at h1
  have h2 := (h.le y.lot).2
  have h3 := h.fit
  unfold En.cost at h1
  omega
theorem get_any (B sb lb zb tb : Nat) (v : Value) (room g n : Int) (l : List Int) (s : PS) (w : World) (hH : HS w B sb lb zb tb room s) (hv : Rd w .u8 v l) (hk : BytesOk l) (hll : l.length ≤ 1000000) (hg : U64 g) (hn : U64 n) (hok : s.Ok room) (hroom : room ≤ 1048576) (g' n' p' : Int) (d' : List Int) (ok : Bool) (hgv : getV (pget s l g n) = (g', n', p', d', ok)) :
    Calls Try.prog 13 #[.pointer (some ⟨sb, 0, none⟩), v, .agg #[.int .u64 g, .int .u64 n]] w fun e w' => ∃ dv, e = .returned (.tuple #[.agg #[.int .u64 g', .int .u64 n', .int .u8 p', .bool false, dv], .bool ok]) ∧ w'.ownsRow w.heap.size 5 1 dv d'.length (d'.map (Value.int .u8)) ∧ HS w' B sb lb zb tb room s ∧ Below w.heap.size w w' := by
  by_cases hne : nameE l = 0
  · have e1 : pget s l g n = eget s.E (padT l) g n := by unfold pget; rw [if_neg (by simpa using hne)]
    rw [e1] at hgv
    refine get_ok B sb lb zb tb v room g n l s w hH hv hk hll hg hn hne g' n' p' d' ok hgv ?_
    cases e : eget s.E (padT l) g n with
    | none => rw [e] at hgv; simp only [getV, Prod.mk.injEq] at hgv; obtain ⟨_, _, _, rfl, _⟩ := hgv; simp
    | some y =>
      have h1 := hok.len (eget_some e).1
      rw [e] at hgv
      simp only [getV, Prod.mk.injEq] at hgv
      obtain ⟨_, _, _, rfl, _⟩ := hgv
      omega
  · have e1 : pget s l g n = none := by unfold pget; rw [if_pos hne]
    rw [e1] at hgv
    simp only [getV, Prod.mk.injEq] at hgv
    obtain ⟨rfl, rfl, rfl, rfl, rfl⟩ := hgv
    refine (get_bad B sb lb zb tb v room g n l s w hH hv hk hll hne).mono ?_
    rintro e w' ⟨rfl, h1, h2⟩
    exact ⟨.slice none 0 0, rfl, ⟨by simp, .inl ⟨rfl, rfl⟩⟩, h1, h2⟩

end Go.Proofs.Ytiaabbflchdcbaa
