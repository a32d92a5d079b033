/-
  What the reference's Read gives: the letters. No condition.
-/
import Derived.Test.YtjijmbpgfabgcaaDoorZRread
namespace Go.Proofs.YtjijmbpgfabgcaaDoor
open Go.RowKit
set_option linter.unusedVariables false
set_option linter.unusedSimpArgs false

set_option maxHeartbeats 40000000 in
set_option maxRecDepth 100000 in
theorem rread_loop (v : Value) (l q : List Int) (k a b : Int) (w : World) (hr : RdT w v l) (hk : BytesOk l) (hl : l.length ≤ 65535) (ht : vtake l = some (k, a :: b :: q)) (ha : 0 ≤ a ∧ a ≤ 255) (hb : 0 ≤ b ∧ b ≤ 255) (hp : (prt k).2 = true) (hq : 256 * a + b ≤ (q.length : Int)) (o : Option M × List Int × Int) (L b0 be : List Int) (hL : L = shK k) (hb0 : b0 = q.take (256 * a + b).toNat) (hbe : be = q.drop (256 * a + b).toNat)
    (hno : parse L (M.nil k) b0 = none → o = (none, [], 4)) (hmore : ∀ y r, parse L (M.nil k) b0 = some (y, r) → (r ≠ [] ∨ rt y = false) → o = (none, [], 4)) (hyes : ∀ y, parse L (M.nil k) b0 = some (y, []) → rt y = true → o = (some y, be, 0)) :
    Calls Tryd.prog 18 #[v] w fun e w' => RdOut o e w' ∧ Below w.heap.size w w' := by
  have hnd : sbs (shK k) ≠ ⟨#[45]⟩ := fun e => by rw [(dash k).1 e] at hp; cases hp
  have hstr : ((sbs (shK k)).toList == [45]) = false := str_ne hnd
  have hql := (vtake_rest hk ht).2.1
  simp only [List.length_cons] at hql
  obtain ⟨N, hN⟩ := Int.eq_ofNat_of_zero_le (show 0 ≤ 256 * a + b by omega)
  have h2i : decide ((q.length : Int) + 1 + 1 < 2) = false := decide_eq_false (by omega)
  have hdn : decide ((q.length : Int) + 1 + 1 < 2 + (256 * a + b)) = false := decide_eq_false (by omega)
  obtain ⟨iU, hiU, hzU⟩ := Option.map_eq_some_iff.1 infoU64
  simp only [Prod.mk.injEq] at hzU
  obtain ⟨hu0, hu1, hu2⟩ := hzU
  have HNO := Lib.hid hno
  have HMORE := Lib.hid hmore
  have HYES := Lib.hid hyes
  clear hno hmore hyes
  have hl7 : L.length ≤ 7 := by rw [hL, (letters hp).1]; exact shP_len _ (prt_mem _ hp)
  have HL7 := Lib.hid hl7
  have hLL : ∀ c ∈ L, c ∈ LETS := by rw [hL]; exact (letters hp).2
  have hRI0 : RI 65535 0 k (M.nil k) b0 := parse_ok0 (by have := (vtake_rest hk ht).2.2; omega) (by rw [hb0]; exact ((vtake_rest hk ht).1.drop 2).take _) (by rw [hb0, List.length_take]; omega)
  have hbeL : be.length ≤ 1099511627776 := by rw [hbe, List.length_drop]; omega
  have hO0 := Blk.new w 28 #[.int .u64 0, .int .u64 0, .int .u64 0, .slice none 0 0, .int .u8 0, .int .u8 0, .int .u64 0, .int .u64 0, .int .u64 0, .int .u64 0, .bool false, .int .u64 0, .slice none 0 0, .int .u64 0, .int .u64 0, .slice none 0 0]
  have hB0 : Below w.heap.size w (w.alloc (.cells #[.int .u64 0, .int .u64 0, .int .u64 0, .slice none 0 0, .int .u8 0, .int .u8 0, .int .u64 0, .int .u64 0, .int .u64 0, .int .u64 0, .bool false, .int .u64 0, .slice none 0 0, .int .u64 0, .int .u64 0, .slice none 0 0] 28)) := (Below.refl _ _).alloc (Nat.le_refl _) _
  have hr0 := (hr.below hB0).1
  have hkk := (vtake_rest hk ht).2.2
  have hsh := rshape_all k
  go_enter Tryd.func18, Tryd.ntmps18
  go_wp2_with fail
  (with_reducible refine (rtake_some v l k (a :: b :: q) _ hr0 hk (by omega) ht).mono ?_)
  rintro e w1 ⟨u, rfl, ho1, hb1⟩
  have hr1 := rdt_of_own ho1
  obtain ⟨A1, c1, rfl⟩ := hr1.form
  have hO1 := hO0.same hb1
  have hB1 := hB0.trans (hb1.mono hB0.size)
  clear hO0 hB0 hr0 hb1 ho1 hr
  go_wp2_with fail
  (with_reducible refine (hsh _).mono ?_)
  clear hsh
  rintro e w2 ⟨rfl, rfl⟩
  obtain ⟨g, off, rfl, _, d0⟩ := hr1.1.at_ 0 (by simp)
  obtain ⟨g', off', e', _, d1⟩ := hr1.1.at_ 1 (by simp)
  simp only [Option.some.injEq, Addr.mk.injEq, and_true] at e'
  obtain ⟨rfl, rfl⟩ := e'
  simp only [Nat.add_zero, List.getD_cons_zero, List.getD_cons_succ] at d0 d1
  rw [hN] at hdn hb0 hbe hq
  rw [Int.toNat_natCast] at hb0 hbe
  have hNq : N ≤ q.length := by omega
  obtain ⟨FA, FC, hF, hsl⟩ := cut_slice hr1 2 (2 + N) (by omega) (by simp; omega)
  rw [show 2 + N - 2 = N by omega] at hF hsl
  rw [show (a :: b :: q).drop 2 = q from rfl, ← hb0] at hF
  rw [show ((2 + N : Nat) : Int) = 2 + (N : Int) by omega] at hsl
  have hsl' : ∀ W, (Instr.slice 23 (.slice (some ⟨g, off, none⟩) (q.length + 1 + 1) c1) (some (.int .i64 2)) (some (.int .i64 (2 + (N : Int)))) none).run Tryd.prog W = .ok (.slice FA N FC) W := hsl
  obtain ⟨SA, SC, hE, hsf⟩ := cut_from hr1 (2 + N) (by simp; omega)
  rw [show (a :: b :: q).drop (2 + N) = q.drop N by rw [Nat.add_comm]; rfl, ← hbe] at hE
  rw [show ((2 + N : Nat) : Int) = 2 + (N : Int) by omega] at hsf
  obtain ⟨sn, hsn⟩ : ∃ sn, sn = q.length + 1 + 1 - (2 + N) := ⟨_, rfl⟩
  have hsf' : ∀ W, (Instr.slice 23 (.slice (some ⟨g, off, none⟩) (q.length + 1 + 1) c1) (some (.int .i64 (2 + (N : Int)))) none none).run Tryd.prog W = .ok (.slice SA sn SC) W := by rw [hsn]; exact hsf
  have hE' : RdT w1 (.slice SA sn SC) be := by rw [hsn]; exact hE
  have HL := Lib.hid hL
  clear hsl hsf hE hsn hb0 hbe
  rw [← hL] at hstr ⊢
  clear hL hnd
  go_wp2_with fail
  have Cd0 := Cls.cells d0 (World.block_lt_of_cell? _ _ d0)
  have Cd1 := Cls.cells d1 (World.block_lt_of_cell? _ _ d1)
  refine wp_region_cls (by kernel_rfl) (by kernel_rfl) ?_
  repeat (go_big_quiet_step (fail))
  refine wpQuiet_nil ?_
  intro w3 hb3
  have d0 := keepB_cell d0 w3 hb3
  have d1 := keepB_cell d1 w3 hb3
  clear Cd0 Cd1
  have hO3 := hO1.same hb3
  have hB3 := hB1.trans (hb3.mono hB1.size)
  have hF3 := hF.below hb3
  have hE3 := hE'.below hb3
  clear hO1 hB1 hb3 hr1 d0 d1 hF hE'
  go_wp2_with fail
  refine wp_region_cls (by kernel_rfl) (by kernel_rfl) ?_
  repeat (go_big_quiet_step (fail))
  refine wpQuiet_nil ?_
  intro w4 hb4
  have hO4 := hO3.same hb4
  have hB4 := hB3.trans (hb4.mono hB3.size)
  have hF4 := hF3.below hb4
  have hE4 := hE3.below hb4
  clear hO3 hB3 hb4 hF3 hE3 hsl' hsf'
  have hOx := (hO4.alloc (.cells #[.int .u64 k, .int .u64 0, .int .u64 0, .slice none 0 0, .int .u8 0, .int .u8 0, .int .u64 0, .int .u64 0, .int .u64 0, .int .u64 0, .bool false, .int .u64 0, .slice none 0 0, .int .u64 0, .int .u64 0, .slice none 0 0] 28)).alloc (.stringIter (sbs L) 0)
  have hBx := (hB4.alloc hB4.size (.cells #[.int .u64 k, .int .u64 0, .int .u64 0, .slice none 0 0, .int .u8 0, .int .u8 0, .int .u64 0, .int .u64 0, .int .u64 0, .int .u64 0, .bool false, .int .u64 0, .slice none 0 0, .int .u64 0, .int .u64 0, .slice none 0 0] 28)).alloc (Nat.le_trans hB4.size (by simp)) (.stringIter (sbs L) 0)
  have hKx := (Blk.new w4 28 #[.int .u64 k, .int .u64 0, .int .u64 0, .slice none 0 0, .int .u8 0, .int .u8 0, .int .u64 0, .int .u64 0, .int .u64 0, .int .u64 0, .bool false, .int .u64 0, .slice none 0 0, .int .u64 0, .int .u64 0, .slice none 0 0]).alloc (.stringIter (sbs L) 0)
  have hIx := ItAt.new (w4.alloc (.cells #[.int .u64 k, .int .u64 0, .int .u64 0, .slice none 0 0, .int .u8 0, .int .u8 0, .int .u64 0, .int .u64 0, .int .u64 0, .int .u64 0, .bool false, .int .u64 0, .slice none 0 0, .int .u64 0, .int .u64 0, .slice none 0 0] 28)) L
  have hFx := (hF4.alloc (.cells #[.int .u64 k, .int .u64 0, .int .u64 0, .slice none 0 0, .int .u8 0, .int .u8 0, .int .u64 0, .int .u64 0, .int .u64 0, .int .u64 0, .bool false, .int .u64 0, .slice none 0 0, .int .u64 0, .int .u64 0, .slice none 0 0] 28)).alloc (.stringIter (sbs L) 0)
  have hEx := (hE4.alloc (.cells #[.int .u64 k, .int .u64 0, .int .u64 0, .slice none 0 0, .int .u8 0, .int .u8 0, .int .u64 0, .int .u64 0, .int .u64 0, .int .u64 0, .bool false, .int .u64 0, .slice none 0 0, .int .u64 0, .int .u64 0, .slice none 0 0] 28)).alloc (.stringIter (sbs L) 0)
  have hlt4 := hO4.lt
  have hsz4 := hB4.size
  simp only [World.size_alloc] at hIx
  have hRS0 : RS ((w4.alloc (.cells #[.int .u64 k, .int .u64 0, .int .u64 0, .slice none 0 0, .int .u8 0, .int .u8 0, .int .u64 0, .int .u64 0, .int .u64 0, .int .u64 0, .bool false, .int .u64 0, .slice none 0 0, .int .u64 0, .int .u64 0, .slice none 0 0] 28)).alloc (.stringIter (sbs L) 0)) w.heap.size w.heap.size w4.heap.size (w4.heap.size + 1) L 0 (M.nil k) (.slice FA N FC) b0 (.slice SA sn SC) be :=
    ⟨hOx, hIx, hFx, hEx, .slice none 0 0, .slice none 0 0, .slice none 0 0, hKx, RdT.nil _, RdT.nil _, World.ownsRow_nil _ _ _ _⟩
  have HRS0 := Lib.hid hRS0
  have HBx := Lib.hid hBx
  clear hO4 hB4 hF4 hE4 hOx hBx hKx hIx hFx hEx hRS0
  go_wp2_with fail
  obtain ⟨kb, hkb⟩ : ∃ kb, kb = w4.heap.size := ⟨_, rfl⟩
  obtain ⟨ib, hib⟩ : ∃ ib, ib = w4.heap.size + 1 := ⟨_, rfl⟩
  have hrk : w.heap.size ≠ kb := by omega
  have hkw : w.heap.size ≤ kb := by omega
  have hiw : w.heap.size ≤ ib := by omega
  have hRS1 := HRS0.out
  have hB1 := HBx.out
  try simp only [World.size_alloc] at hRS1 hB1 ⊢
  rw [← hib, ← hkb] at hRS1 ⊢
  clear HRS0 HBx hib hlt4 hsz4
  go_loopg [10] L.length (fun gk s10 wr => ∃ (pos : Nat) (x : M) (bl : List Int), gk = L.length - pos ∧ pos ≤ L.length ∧ RS wr w.heap.size w.heap.size kb ib L pos x s10 bl (.slice SA sn SC) be ∧ Below w.heap.size w wr ∧ RI 65535 pos k x bl ∧ Hid (parse (L.drop pos) x bl = parse L (M.nil k) b0))
  case atStart => exact ⟨0, M.nil k, b0, rfl, Nat.zero_le _, hRS1, hB1, hRI0, Lib.hid rfl⟩
  case round =>
    clear hRS1 hB1 hRI0 hkb
    obtain ⟨pos, x, bl, hgk, hpl, hS, hB, hRI, HP⟩ := hrel
    by_cases hlt : pos < L.length
    · obtain ⟨wi, c, hcl, hdp, hnx, hS1, hgi⟩ := hS.next (P := Tryd.prog) hlt hLL
      have hB1 := hB.grown hgi hB.size (fun k hk => by simp only [Option.some.injEq] at hk; omega)
      rw [hdp] at HP
      clear hS hB hgi hdp
      have hS := hS1
      have hB := hB1
      clear hS1 hB1
      obtain ⟨bA0, cb, rfl⟩ := hS.b.form
      have hbk := hRI.by_
      have hbl := hRI.bl
      have hcc := hcl
      simp only [LETS, List.mem_cons, List.not_mem_nil, or_false] at hcc
      rcases hcc with rfl | rfl | rfl | rfl | rfl | rfl | rfl | rfl | rfl | rfl | rfl | rfl | rfl | rfl
      · as_aux_lemma =>
          rcases ht : vtake bl with _ | ⟨v2, r⟩
          · have hs : stepL 105 x bl = none := by simp [stepL, ht]
            have hr9 := hS.b.1
            go_wp2_with fail
            (with_reducible refine (rtake_none _ bl _ hr9 hbk ht).mono ?_)
            rintro e wx ⟨rfl, hbx⟩
            have hSf := hS.kept hbx
            have hBz := hB.trans (hbx.mono hB.size)
            clear hS hB hbx hr9
            have hOz := hSf.res
            skip
            go_wp2_with (first | (refine wpList_store_row rfl _ _ _ rfl w.heap.size #[.int .u64 0, .int .u64 0, .int .u64 0, .slice none 0 0, .int .u8 0, .int .u8 0, .int .u64 0, .int .u64 0, .int .u64 0, .int .u64 0, .bool false, .int .u64 0, .slice none 0 0, .int .u64 0, .int .u64 0, .slice none 0 0] rfl rfl 28 #[.int .u64 0, .int .u64 0, .int .u64 0, .slice none 0 0, .int .u8 0, .int .u8 0, .int .u64 0, .int .u64 0, .int .u64 0, .int .u64 0, .bool false, .int .u64 0, .slice none 0 0, .int .u64 0, .int .u64 0, .slice none 0 0] hOz (by rw [infoR28]; rfl) rfl za_one ?_) | fail)
            refine bodyPost_ret (v := .tuple #[.agg #[.int .u64 0, .int .u64 0, .int .u64 0, .slice none 0 0, .int .u8 0, .int .u8 0, .int .u64 0, .int .u64 0, .int .u64 0, .int .u64 0, .bool false, .int .u64 0, .slice none 0 0, .int .u64 0, .int .u64 0, .slice none 0 0], .slice none 0 0, .int .i64 4]) (by exact results_row3 Tryd.results18 _ _ rfl (Blk.row hOz #[.int .u64 0, .int .u64 0, .int .u64 0, .slice none 0 0, .int .u8 0, .int .u8 0, .int .u64 0, .int .u64 0, .int .u64 0, .int .u64 0, .bool false, .int .u64 0, .slice none 0 0, .int .u64 0, .int .u64 0, .slice none 0 0]) Tryd.underlying28 rfl (by rw [infoR28]; rfl)) rfl ?_
            have hBf := below_row hBz (Nat.le_refl w.heap.size) #[.int .u64 0, .int .u64 0, .int .u64 0, .slice none 0 0, .int .u8 0, .int .u8 0, .int .u64 0, .int .u64 0, .int .u64 0, .int .u64 0, .bool false, .int .u64 0, .slice none 0 0, .int .u64 0, .int .u64 0, .slice none 0 0]
            rw [HNO.out (HP.out.symm.trans (parse_fail hs))]
            exact ⟨⟨.slice none 0 0, .slice none 0 0, .slice none 0 0, .slice none 0 0, rfl, Rd.nil _ _, Rd.nil _ _, Rd.nil _ _, Rd.nil _ _⟩, hBf⟩
          · have hs : stepL 105 x bl = some ({ x with id := v2 }, r) := by simp [stepL, ht]
            have hr39 := hS.b.1
            have hl39 : bl.length ≤ 1099511627776 := by omega
            go_wp2_with fail
            (with_reducible refine (rtake_some _ bl v2 r _ hr39 hbk hl39 ht).mono ?_)
            rintro e w3 ⟨u3, rfl, ho3, hb3⟩
            have hS3 := (hS.kept hb3).withb (rdt_of_own ho3)
            have hB3 := hB.trans (hb3.mono hB.size)
            clear hS hB hb3 ho3 hr39
            have fz1 := hS3.frozen 1
            obtain ⟨o1, e1⟩ := hS3.old 1 (by decide)
            go_wp2_with fail
            go_roundg (L.length - (pos + 1))
            case measure => omega
            case rel => exact ⟨pos + 1, { x with id := v2 }, r, rfl, hlt, hS3.set hrk 1 (.int .u64 v2) (fun _ _ _ => rfl) rfl rfl rfl, hB3.setCell hkw _, step_ri hcl hRI hs, Lib.hid ((parse_step hs).symm.trans HP.out)⟩
      · as_aux_lemma =>
          rcases ht : vtake bl with _ | ⟨v2, r⟩
          · have hs : stepL 97 x bl = none := by simp [stepL, ht]
            have hr9 := hS.b.1
            go_wp2_with fail
            (with_reducible refine (rtake_none _ bl _ hr9 hbk ht).mono ?_)
            rintro e wx ⟨rfl, hbx⟩
            have hSf := hS.kept hbx
            have hBz := hB.trans (hbx.mono hB.size)
            clear hS hB hbx hr9
            have hOz := hSf.res
            skip
            go_wp2_with (first | (refine wpList_store_row rfl _ _ _ rfl w.heap.size #[.int .u64 0, .int .u64 0, .int .u64 0, .slice none 0 0, .int .u8 0, .int .u8 0, .int .u64 0, .int .u64 0, .int .u64 0, .int .u64 0, .bool false, .int .u64 0, .slice none 0 0, .int .u64 0, .int .u64 0, .slice none 0 0] rfl rfl 28 #[.int .u64 0, .int .u64 0, .int .u64 0, .slice none 0 0, .int .u8 0, .int .u8 0, .int .u64 0, .int .u64 0, .int .u64 0, .int .u64 0, .bool false, .int .u64 0, .slice none 0 0, .int .u64 0, .int .u64 0, .slice none 0 0] hOz (by rw [infoR28]; rfl) rfl za_one ?_) | fail)
            refine bodyPost_ret (v := .tuple #[.agg #[.int .u64 0, .int .u64 0, .int .u64 0, .slice none 0 0, .int .u8 0, .int .u8 0, .int .u64 0, .int .u64 0, .int .u64 0, .int .u64 0, .bool false, .int .u64 0, .slice none 0 0, .int .u64 0, .int .u64 0, .slice none 0 0], .slice none 0 0, .int .i64 4]) (by exact results_row3 Tryd.results18 _ _ rfl (Blk.row hOz #[.int .u64 0, .int .u64 0, .int .u64 0, .slice none 0 0, .int .u8 0, .int .u8 0, .int .u64 0, .int .u64 0, .int .u64 0, .int .u64 0, .bool false, .int .u64 0, .slice none 0 0, .int .u64 0, .int .u64 0, .slice none 0 0]) Tryd.underlying28 rfl (by rw [infoR28]; rfl)) rfl ?_
            have hBf := below_row hBz (Nat.le_refl w.heap.size) #[.int .u64 0, .int .u64 0, .int .u64 0, .slice none 0 0, .int .u8 0, .int .u8 0, .int .u64 0, .int .u64 0, .int .u64 0, .int .u64 0, .bool false, .int .u64 0, .slice none 0 0, .int .u64 0, .int .u64 0, .slice none 0 0]
            rw [HNO.out (HP.out.symm.trans (parse_fail hs))]
            exact ⟨⟨.slice none 0 0, .slice none 0 0, .slice none 0 0, .slice none 0 0, rfl, Rd.nil _ _, Rd.nil _ _, Rd.nil _ _, Rd.nil _ _⟩, hBf⟩
          · have hs : stepL 97 x bl = some ({ x with al := v2 }, r) := by simp [stepL, ht]
            have hr39 := hS.b.1
            have hl39 : bl.length ≤ 1099511627776 := by omega
            go_wp2_with fail
            (with_reducible refine (rtake_some _ bl v2 r _ hr39 hbk hl39 ht).mono ?_)
            rintro e w3 ⟨u3, rfl, ho3, hb3⟩
            have hS3 := (hS.kept hb3).withb (rdt_of_own ho3)
            have hB3 := hB.trans (hb3.mono hB.size)
            clear hS hB hb3 ho3 hr39
            have fz2 := hS3.frozen 2
            obtain ⟨o2, e2⟩ := hS3.old 2 (by decide)
            go_wp2_with fail
            go_roundg (L.length - (pos + 1))
            case measure => omega
            case rel => exact ⟨pos + 1, { x with al := v2 }, r, rfl, hlt, hS3.set hrk 2 (.int .u64 v2) (fun _ _ _ => rfl) rfl rfl rfl, hB3.setCell hkw _, step_ri hcl hRI hs, Lib.hid ((parse_step hs).symm.trans HP.out)⟩
      · as_aux_lemma =>
          have hty := rtext_allT _ bl 1048576 wi hS.b.1 hbk (by omega) (by decide)
          by_cases ht : (vtext bl 65536).2.2 = 0
          · have hs : stepL 116 x bl = some ({ x with nm := (vtext bl 65536).1 }, (vtext bl 65536).2.1) := by simp [stepL, ht]
            rw [(vtext_two hbk hbl).1 ht, ht] at hty
            go_wp2_with fail
            (with_reducible refine hty.mono ?_)
            clear hty
            rintro e w3 ⟨t1, t2, rfl, hr1, hr2, hb3⟩
            obtain ⟨A1, c1, rfl⟩ := hr1.form
            obtain ⟨A2, c2, rfl⟩ := hr2.form
            have hS3 := (hS.kept hb3).withb hr2
            have hB3 := hB.trans (hb3.mono hB.size)
            clear hS hB hb3
            have fz3 := hS3.frozen 3
            obtain ⟨o3, e3⟩ := hS3.old 3 (by decide)
            go_wp2_with fail
            go_roundg (L.length - (pos + 1))
            case measure => omega
            case rel => exact ⟨pos + 1, { x with nm := (vtext bl 65536).1 }, (vtext bl 65536).2.1, rfl, hlt, hS3.setn hrk (.slice A1 (vtext bl 65536).1.length c1) _ hr1, hB3.setCell hkw _, step_ri hcl hRI hs, Lib.hid ((parse_step hs).symm.trans HP.out)⟩
          · have hs : stepL 116 x bl = none := by simp [stepL, ht]
            have hn0 := (vtext_two hbk hbl).2 ht
            rcases vtext_codes bl 1048576 with e9 | e9 | e9
            · exact absurd e9 hn0
            · rw [e9] at hty
              go_wp2_with fail
              (with_reducible refine hty.mono ?_)
              clear hty
              rintro e w3 ⟨t1, t2, rfl, hr1, hr2, hb3⟩
              obtain ⟨A1, c1, rfl⟩ := hr1.form
              obtain ⟨A2, c2, rfl⟩ := hr2.form
              have hS3 := (hS.kept hb3).withb hr2
              have hB3 := hB.trans (hb3.mono hB.size)
              clear hS hB hb3
              have hOz := hS3.res
              skip
              go_wp2_with (first | (refine wpList_store_row rfl _ _ _ rfl w.heap.size #[.int .u64 0, .int .u64 0, .int .u64 0, .slice none 0 0, .int .u8 0, .int .u8 0, .int .u64 0, .int .u64 0, .int .u64 0, .int .u64 0, .bool false, .int .u64 0, .slice none 0 0, .int .u64 0, .int .u64 0, .slice none 0 0] rfl rfl 28 #[.int .u64 0, .int .u64 0, .int .u64 0, .slice none 0 0, .int .u8 0, .int .u8 0, .int .u64 0, .int .u64 0, .int .u64 0, .int .u64 0, .bool false, .int .u64 0, .slice none 0 0, .int .u64 0, .int .u64 0, .slice none 0 0] hOz (by rw [infoR28]; rfl) rfl za_one ?_) | fail)
              refine bodyPost_ret (v := .tuple #[.agg #[.int .u64 0, .int .u64 0, .int .u64 0, .slice none 0 0, .int .u8 0, .int .u8 0, .int .u64 0, .int .u64 0, .int .u64 0, .int .u64 0, .bool false, .int .u64 0, .slice none 0 0, .int .u64 0, .int .u64 0, .slice none 0 0], .slice none 0 0, .int .i64 4]) (by exact results_row3 Tryd.results18 _ _ rfl (Blk.row hOz #[.int .u64 0, .int .u64 0, .int .u64 0, .slice none 0 0, .int .u8 0, .int .u8 0, .int .u64 0, .int .u64 0, .int .u64 0, .int .u64 0, .bool false, .int .u64 0, .slice none 0 0, .int .u64 0, .int .u64 0, .slice none 0 0]) Tryd.underlying28 rfl (by rw [infoR28]; rfl)) rfl ?_
              have hBf := below_row hB3 (Nat.le_refl w.heap.size) #[.int .u64 0, .int .u64 0, .int .u64 0, .slice none 0 0, .int .u8 0, .int .u8 0, .int .u64 0, .int .u64 0, .int .u64 0, .int .u64 0, .bool false, .int .u64 0, .slice none 0 0, .int .u64 0, .int .u64 0, .slice none 0 0]
              rw [HNO.out (HP.out.symm.trans (parse_fail hs))]
              exact ⟨⟨.slice none 0 0, .slice none 0 0, .slice none 0 0, .slice none 0 0, rfl, Rd.nil _ _, Rd.nil _ _, Rd.nil _ _, Rd.nil _ _⟩, hBf⟩
            · rw [e9] at hty
              go_wp2_with fail
              (with_reducible refine hty.mono ?_)
              clear hty
              rintro e w3 ⟨t1, t2, rfl, hr1, hr2, hb3⟩
              obtain ⟨A1, c1, rfl⟩ := hr1.form
              obtain ⟨A2, c2, rfl⟩ := hr2.form
              have hS3 := (hS.kept hb3).withb hr2
              have hB3 := hB.trans (hb3.mono hB.size)
              clear hS hB hb3
              have hOz := hS3.res
              skip
              go_wp2_with (first | (refine wpList_store_row rfl _ _ _ rfl w.heap.size #[.int .u64 0, .int .u64 0, .int .u64 0, .slice none 0 0, .int .u8 0, .int .u8 0, .int .u64 0, .int .u64 0, .int .u64 0, .int .u64 0, .bool false, .int .u64 0, .slice none 0 0, .int .u64 0, .int .u64 0, .slice none 0 0] rfl rfl 28 #[.int .u64 0, .int .u64 0, .int .u64 0, .slice none 0 0, .int .u8 0, .int .u8 0, .int .u64 0, .int .u64 0, .int .u64 0, .int .u64 0, .bool false, .int .u64 0, .slice none 0 0, .int .u64 0, .int .u64 0, .slice none 0 0] hOz (by rw [infoR28]; rfl) rfl za_one ?_) | fail)
              refine bodyPost_ret (v := .tuple #[.agg #[.int .u64 0, .int .u64 0, .int .u64 0, .slice none 0 0, .int .u8 0, .int .u8 0, .int .u64 0, .int .u64 0, .int .u64 0, .int .u64 0, .bool false, .int .u64 0, .slice none 0 0, .int .u64 0, .int .u64 0, .slice none 0 0], .slice none 0 0, .int .i64 4]) (by exact results_row3 Tryd.results18 _ _ rfl (Blk.row hOz #[.int .u64 0, .int .u64 0, .int .u64 0, .slice none 0 0, .int .u8 0, .int .u8 0, .int .u64 0, .int .u64 0, .int .u64 0, .int .u64 0, .bool false, .int .u64 0, .slice none 0 0, .int .u64 0, .int .u64 0, .slice none 0 0]) Tryd.underlying28 rfl (by rw [infoR28]; rfl)) rfl ?_
              have hBf := below_row hB3 (Nat.le_refl w.heap.size) #[.int .u64 0, .int .u64 0, .int .u64 0, .slice none 0 0, .int .u8 0, .int .u8 0, .int .u64 0, .int .u64 0, .int .u64 0, .int .u64 0, .bool false, .int .u64 0, .slice none 0 0, .int .u64 0, .int .u64 0, .slice none 0 0]
              rw [HNO.out (HP.out.symm.trans (parse_fail hs))]
              exact ⟨⟨.slice none 0 0, .slice none 0 0, .slice none 0 0, .slice none 0 0, rfl, Rd.nil _ _, Rd.nil _ _, Rd.nil _ _, Rd.nil _ _⟩, hBf⟩
      · as_aux_lemma =>
          rcases bl with _ | ⟨v2, r⟩
          · have hs : stepL 112 x [] = none := by simp [stepL]
            have hBz := hB
            have hSf := hS
            clear hS hB
            have hOz := hSf.res
            skip
            go_wp2_with (first | (refine wpList_store_row rfl _ _ _ rfl w.heap.size #[.int .u64 0, .int .u64 0, .int .u64 0, .slice none 0 0, .int .u8 0, .int .u8 0, .int .u64 0, .int .u64 0, .int .u64 0, .int .u64 0, .bool false, .int .u64 0, .slice none 0 0, .int .u64 0, .int .u64 0, .slice none 0 0] rfl rfl 28 #[.int .u64 0, .int .u64 0, .int .u64 0, .slice none 0 0, .int .u8 0, .int .u8 0, .int .u64 0, .int .u64 0, .int .u64 0, .int .u64 0, .bool false, .int .u64 0, .slice none 0 0, .int .u64 0, .int .u64 0, .slice none 0 0] hOz (by rw [infoR28]; rfl) rfl za_one ?_) | fail)
            refine bodyPost_ret (v := .tuple #[.agg #[.int .u64 0, .int .u64 0, .int .u64 0, .slice none 0 0, .int .u8 0, .int .u8 0, .int .u64 0, .int .u64 0, .int .u64 0, .int .u64 0, .bool false, .int .u64 0, .slice none 0 0, .int .u64 0, .int .u64 0, .slice none 0 0], .slice none 0 0, .int .i64 4]) (by exact results_row3 Tryd.results18 _ _ rfl (Blk.row hOz #[.int .u64 0, .int .u64 0, .int .u64 0, .slice none 0 0, .int .u8 0, .int .u8 0, .int .u64 0, .int .u64 0, .int .u64 0, .int .u64 0, .bool false, .int .u64 0, .slice none 0 0, .int .u64 0, .int .u64 0, .slice none 0 0]) Tryd.underlying28 rfl (by rw [infoR28]; rfl)) rfl ?_
            have hBf := below_row hBz (Nat.le_refl w.heap.size) #[.int .u64 0, .int .u64 0, .int .u64 0, .slice none 0 0, .int .u8 0, .int .u8 0, .int .u64 0, .int .u64 0, .int .u64 0, .int .u64 0, .bool false, .int .u64 0, .slice none 0 0, .int .u64 0, .int .u64 0, .slice none 0 0]
            rw [HNO.out (HP.out.symm.trans (parse_fail hs))]
            exact ⟨⟨.slice none 0 0, .slice none 0 0, .slice none 0 0, .slice none 0 0, rfl, Rd.nil _ _, Rd.nil _ _, Rd.nil _ _, Rd.nil _ _⟩, hBf⟩
          · have hs : stepL 112 x (v2 :: r) = some ({ x with pr := v2 }, r) := by simp [stepL]
            obtain ⟨g, off, rfl, _, d0⟩ := hS.b.1.at_ 0 (by simp)
            simp only [Nat.add_zero, List.getD_cons_zero] at d0
            obtain ⟨TA, TC, hT, hsl⟩ := cut_from hS.b 1 (by simp)
            have hv := hbk v2 (by simp)
            have hwr : IntKind.u64.wrap v2 = v2 := by rw [IntKind.wrap_u64]; omega
            have hwq : IntKind.u8.wrap v2 = v2 := by rw [IntKind.wrap_u8]; omega
            have hsl' : ∀ W, (Instr.slice 23 (.slice (some ⟨g, off, none⟩) (r.length + 1) cb) (some (.int .i64 1)) none none).run Tryd.prog W = .ok (.slice TA r.length TC) W := hsl
            have hT' : RdT wi (.slice TA r.length TC) r := hT
            clear hsl hT
            go_wp2_with fail
            have Cd0 := Cls.cells d0 (World.block_lt_of_cell? _ _ d0)
            refine wp_region_cls (by kernel_rfl) (by kernel_rfl) ?_
            repeat (go_big_quiet_step (fail))
            refine wpQuiet_nil ?_
            intro w3 hb3
            have d0 := keepB_cell d0 w3 hb3
            clear Cd0
            have hS3 := (hS.kept hb3).withb (hT'.below hb3)
            have hB3 := hB.trans (hb3.mono hB.size)
            clear hS hB hb3 hT' d0
            have fz4 := hS3.frozen 4
            obtain ⟨o4, e4⟩ := hS3.old 4 (by decide)
            go_wp2_with fail
            go_roundg (L.length - (pos + 1))
            case measure => omega
            case rel => exact ⟨pos + 1, { x with pr := v2 }, r, rfl, hlt, hS3.set hrk 4 (.int .u8 v2) (fun _ _ _ => rfl) rfl rfl rfl, hB3.setCell hkw _, step_ri hcl hRI hs, Lib.hid ((parse_step hs).symm.trans HP.out)⟩
      · as_aux_lemma =>
          rcases bl with _ | ⟨v2, r⟩
          · have hs : stepL 111 x [] = none := by simp [stepL]
            have hBz := hB
            have hSf := hS
            clear hS hB
            have hOz := hSf.res
            skip
            go_wp2_with (first | (refine wpList_store_row rfl _ _ _ rfl w.heap.size #[.int .u64 0, .int .u64 0, .int .u64 0, .slice none 0 0, .int .u8 0, .int .u8 0, .int .u64 0, .int .u64 0, .int .u64 0, .int .u64 0, .bool false, .int .u64 0, .slice none 0 0, .int .u64 0, .int .u64 0, .slice none 0 0] rfl rfl 28 #[.int .u64 0, .int .u64 0, .int .u64 0, .slice none 0 0, .int .u8 0, .int .u8 0, .int .u64 0, .int .u64 0, .int .u64 0, .int .u64 0, .bool false, .int .u64 0, .slice none 0 0, .int .u64 0, .int .u64 0, .slice none 0 0] hOz (by rw [infoR28]; rfl) rfl za_one ?_) | fail)
            refine bodyPost_ret (v := .tuple #[.agg #[.int .u64 0, .int .u64 0, .int .u64 0, .slice none 0 0, .int .u8 0, .int .u8 0, .int .u64 0, .int .u64 0, .int .u64 0, .int .u64 0, .bool false, .int .u64 0, .slice none 0 0, .int .u64 0, .int .u64 0, .slice none 0 0], .slice none 0 0, .int .i64 4]) (by exact results_row3 Tryd.results18 _ _ rfl (Blk.row hOz #[.int .u64 0, .int .u64 0, .int .u64 0, .slice none 0 0, .int .u8 0, .int .u8 0, .int .u64 0, .int .u64 0, .int .u64 0, .int .u64 0, .bool false, .int .u64 0, .slice none 0 0, .int .u64 0, .int .u64 0, .slice none 0 0]) Tryd.underlying28 rfl (by rw [infoR28]; rfl)) rfl ?_
            have hBf := below_row hBz (Nat.le_refl w.heap.size) #[.int .u64 0, .int .u64 0, .int .u64 0, .slice none 0 0, .int .u8 0, .int .u8 0, .int .u64 0, .int .u64 0, .int .u64 0, .int .u64 0, .bool false, .int .u64 0, .slice none 0 0, .int .u64 0, .int .u64 0, .slice none 0 0]
            rw [HNO.out (HP.out.symm.trans (parse_fail hs))]
            exact ⟨⟨.slice none 0 0, .slice none 0 0, .slice none 0 0, .slice none 0 0, rfl, Rd.nil _ _, Rd.nil _ _, Rd.nil _ _, Rd.nil _ _⟩, hBf⟩
          · have hs : stepL 111 x (v2 :: r) = some ({ x with od := v2 }, r) := by simp [stepL]
            obtain ⟨g, off, rfl, _, d0⟩ := hS.b.1.at_ 0 (by simp)
            simp only [Nat.add_zero, List.getD_cons_zero] at d0
            obtain ⟨TA, TC, hT, hsl⟩ := cut_from hS.b 1 (by simp)
            have hv := hbk v2 (by simp)
            have hwr : IntKind.u64.wrap v2 = v2 := by rw [IntKind.wrap_u64]; omega
            have hwq : IntKind.u8.wrap v2 = v2 := by rw [IntKind.wrap_u8]; omega
            have hsl' : ∀ W, (Instr.slice 23 (.slice (some ⟨g, off, none⟩) (r.length + 1) cb) (some (.int .i64 1)) none none).run Tryd.prog W = .ok (.slice TA r.length TC) W := hsl
            have hT' : RdT wi (.slice TA r.length TC) r := hT
            clear hsl hT
            go_wp2_with fail
            have Cd0 := Cls.cells d0 (World.block_lt_of_cell? _ _ d0)
            refine wp_region_cls (by kernel_rfl) (by kernel_rfl) ?_
            repeat (go_big_quiet_step (fail))
            refine wpQuiet_nil ?_
            intro w3 hb3
            have d0 := keepB_cell d0 w3 hb3
            clear Cd0
            have hS3 := (hS.kept hb3).withb (hT'.below hb3)
            have hB3 := hB.trans (hb3.mono hB.size)
            clear hS hB hb3 hT' d0
            have fz5 := hS3.frozen 5
            obtain ⟨o5, e5⟩ := hS3.old 5 (by decide)
            go_wp2_with fail
            go_roundg (L.length - (pos + 1))
            case measure => omega
            case rel => exact ⟨pos + 1, { x with od := v2 }, r, rfl, hlt, hS3.set hrk 5 (.int .u8 v2) (fun _ _ _ => rfl) rfl rfl rfl, hB3.setCell hkw _, step_ri hcl hRI hs, Lib.hid ((parse_step hs).symm.trans HP.out)⟩
      · as_aux_lemma =>
          rcases ht : vtake bl with _ | ⟨v2, r⟩
          · have hs : stepL 115 x bl = none := by simp [stepL, ht]
            have hr9 := hS.b.1
            go_wp2_with fail
            (with_reducible refine (rtake_none _ bl _ hr9 hbk ht).mono ?_)
            rintro e wx ⟨rfl, hbx⟩
            have hSf := hS.kept hbx
            have hBz := hB.trans (hbx.mono hB.size)
            clear hS hB hbx hr9
            have hOz := hSf.res
            skip
            go_wp2_with (first | (refine wpList_store_row rfl _ _ _ rfl w.heap.size #[.int .u64 0, .int .u64 0, .int .u64 0, .slice none 0 0, .int .u8 0, .int .u8 0, .int .u64 0, .int .u64 0, .int .u64 0, .int .u64 0, .bool false, .int .u64 0, .slice none 0 0, .int .u64 0, .int .u64 0, .slice none 0 0] rfl rfl 28 #[.int .u64 0, .int .u64 0, .int .u64 0, .slice none 0 0, .int .u8 0, .int .u8 0, .int .u64 0, .int .u64 0, .int .u64 0, .int .u64 0, .bool false, .int .u64 0, .slice none 0 0, .int .u64 0, .int .u64 0, .slice none 0 0] hOz (by rw [infoR28]; rfl) rfl za_one ?_) | fail)
            refine bodyPost_ret (v := .tuple #[.agg #[.int .u64 0, .int .u64 0, .int .u64 0, .slice none 0 0, .int .u8 0, .int .u8 0, .int .u64 0, .int .u64 0, .int .u64 0, .int .u64 0, .bool false, .int .u64 0, .slice none 0 0, .int .u64 0, .int .u64 0, .slice none 0 0], .slice none 0 0, .int .i64 4]) (by exact results_row3 Tryd.results18 _ _ rfl (Blk.row hOz #[.int .u64 0, .int .u64 0, .int .u64 0, .slice none 0 0, .int .u8 0, .int .u8 0, .int .u64 0, .int .u64 0, .int .u64 0, .int .u64 0, .bool false, .int .u64 0, .slice none 0 0, .int .u64 0, .int .u64 0, .slice none 0 0]) Tryd.underlying28 rfl (by rw [infoR28]; rfl)) rfl ?_
            have hBf := below_row hBz (Nat.le_refl w.heap.size) #[.int .u64 0, .int .u64 0, .int .u64 0, .slice none 0 0, .int .u8 0, .int .u8 0, .int .u64 0, .int .u64 0, .int .u64 0, .int .u64 0, .bool false, .int .u64 0, .slice none 0 0, .int .u64 0, .int .u64 0, .slice none 0 0]
            rw [HNO.out (HP.out.symm.trans (parse_fail hs))]
            exact ⟨⟨.slice none 0 0, .slice none 0 0, .slice none 0 0, .slice none 0 0, rfl, Rd.nil _ _, Rd.nil _ _, Rd.nil _ _, Rd.nil _ _⟩, hBf⟩
          · have hrk2 := (vtake_rest hbk ht).1
            have hrl := Nat.le_trans (vtake_rest hbk ht).2.1 hbl
            rcases hu : vtake r with _ | ⟨v3, r2⟩
            · have hs : stepL 115 x bl = none := by simp [stepL, ht, hu]
              have hr39 := hS.b.1
              have hl39 : bl.length ≤ 1099511627776 := by omega
              go_wp2_with fail
              (with_reducible refine (rtake_some _ bl v2 r _ hr39 hbk hl39 ht).mono ?_)
              rintro e w3 ⟨u3, rfl, ho3, hb3⟩
              have hS3 := (hS.kept hb3).withb (rdt_of_own ho3)
              have hB3 := hB.trans (hb3.mono hB.size)
              clear hS hB hb3 ho3 hr39
              have hr9 := hS3.b.1
              go_wp2_with fail
              (with_reducible refine (rtake_none _ r _ hr9 hrk2 hu).mono ?_)
              rintro e wx ⟨rfl, hbx⟩
              have hSf := hS3.kept hbx
              have hBz := hB3.trans (hbx.mono hB3.size)
              clear hS3 hB3 hbx hr9
              have hOz := hSf.res
              skip
              go_wp2_with (first | (refine wpList_store_row rfl _ _ _ rfl w.heap.size #[.int .u64 0, .int .u64 0, .int .u64 0, .slice none 0 0, .int .u8 0, .int .u8 0, .int .u64 0, .int .u64 0, .int .u64 0, .int .u64 0, .bool false, .int .u64 0, .slice none 0 0, .int .u64 0, .int .u64 0, .slice none 0 0] rfl rfl 28 #[.int .u64 0, .int .u64 0, .int .u64 0, .slice none 0 0, .int .u8 0, .int .u8 0, .int .u64 0, .int .u64 0, .int .u64 0, .int .u64 0, .bool false, .int .u64 0, .slice none 0 0, .int .u64 0, .int .u64 0, .slice none 0 0] hOz (by rw [infoR28]; rfl) rfl za_one ?_) | fail)
              refine bodyPost_ret (v := .tuple #[.agg #[.int .u64 0, .int .u64 0, .int .u64 0, .slice none 0 0, .int .u8 0, .int .u8 0, .int .u64 0, .int .u64 0, .int .u64 0, .int .u64 0, .bool false, .int .u64 0, .slice none 0 0, .int .u64 0, .int .u64 0, .slice none 0 0], .slice none 0 0, .int .i64 4]) (by exact results_row3 Tryd.results18 _ _ rfl (Blk.row hOz #[.int .u64 0, .int .u64 0, .int .u64 0, .slice none 0 0, .int .u8 0, .int .u8 0, .int .u64 0, .int .u64 0, .int .u64 0, .int .u64 0, .bool false, .int .u64 0, .slice none 0 0, .int .u64 0, .int .u64 0, .slice none 0 0]) Tryd.underlying28 rfl (by rw [infoR28]; rfl)) rfl ?_
              have hBf := below_row hBz (Nat.le_refl w.heap.size) #[.int .u64 0, .int .u64 0, .int .u64 0, .slice none 0 0, .int .u8 0, .int .u8 0, .int .u64 0, .int .u64 0, .int .u64 0, .int .u64 0, .bool false, .int .u64 0, .slice none 0 0, .int .u64 0, .int .u64 0, .slice none 0 0]
              rw [HNO.out (HP.out.symm.trans (parse_fail hs))]
              exact ⟨⟨.slice none 0 0, .slice none 0 0, .slice none 0 0, .slice none 0 0, rfl, Rd.nil _ _, Rd.nil _ _, Rd.nil _ _, Rd.nil _ _⟩, hBf⟩
            · have hs : stepL 115 x bl = some ({ x with sg := v2, so := v3 }, r2) := by simp [stepL, ht, hu]
              have hr39 := hS.b.1
              have hl39 : bl.length ≤ 1099511627776 := by omega
              go_wp2_with fail
              (with_reducible refine (rtake_some _ bl v2 r _ hr39 hbk hl39 ht).mono ?_)
              rintro e w3 ⟨u3, rfl, ho3, hb3⟩
              have hS3 := (hS.kept hb3).withb (rdt_of_own ho3)
              have hB3 := hB.trans (hb3.mono hB.size)
              clear hS hB hb3 ho3 hr39
              have hr49 := hS3.b.1
              have hl49 : r.length ≤ 1099511627776 := by omega
              go_wp2_with fail
              (with_reducible refine (rtake_some _ r v3 r2 _ hr49 hrk2 hl49 hu).mono ?_)
              rintro e w4 ⟨u4, rfl, ho4, hb4⟩
              have hS4 := (hS3.kept hb4).withb (rdt_of_own ho4)
              have hB4 := hB3.trans (hb4.mono hB3.size)
              clear hS3 hB3 hb4 ho4 hr49
              have fz6 := hS4.frozen 6
              obtain ⟨o6, e6⟩ := hS4.old 6 (by decide)
              have fz7 := hS4.frozen 7
              obtain ⟨o7, e7⟩ := hS4.old 7 (by decide)
              go_wp2_with fail
              go_roundg (L.length - (pos + 1))
              case measure => omega
              case rel => exact ⟨pos + 1, { x with sg := v2, so := v3 }, r2, rfl, hlt, (hS4.set (x' := { x with sg := v2 }) hrk 6 (.int .u64 v2) (fun _ _ _ => rfl) rfl rfl rfl).set hrk 7 (.int .u64 v3) (fun _ _ _ => rfl) rfl rfl rfl, (hB4.setCell hkw _).setCell hkw _, step_ri hcl hRI hs, Lib.hid ((parse_step hs).symm.trans HP.out)⟩
      · as_aux_lemma =>
          rcases ht : vtake bl with _ | ⟨v2, r⟩
          · have hs : stepL 101 x bl = none := by simp [stepL, ht]
            have hr9 := hS.b.1
            go_wp2_with fail
            (with_reducible refine (rtake_none _ bl _ hr9 hbk ht).mono ?_)
            rintro e wx ⟨rfl, hbx⟩
            have hSf := hS.kept hbx
            have hBz := hB.trans (hbx.mono hB.size)
            clear hS hB hbx hr9
            have hOz := hSf.res
            skip
            go_wp2_with (first | (refine wpList_store_row rfl _ _ _ rfl w.heap.size #[.int .u64 0, .int .u64 0, .int .u64 0, .slice none 0 0, .int .u8 0, .int .u8 0, .int .u64 0, .int .u64 0, .int .u64 0, .int .u64 0, .bool false, .int .u64 0, .slice none 0 0, .int .u64 0, .int .u64 0, .slice none 0 0] rfl rfl 28 #[.int .u64 0, .int .u64 0, .int .u64 0, .slice none 0 0, .int .u8 0, .int .u8 0, .int .u64 0, .int .u64 0, .int .u64 0, .int .u64 0, .bool false, .int .u64 0, .slice none 0 0, .int .u64 0, .int .u64 0, .slice none 0 0] hOz (by rw [infoR28]; rfl) rfl za_one ?_) | fail)
            refine bodyPost_ret (v := .tuple #[.agg #[.int .u64 0, .int .u64 0, .int .u64 0, .slice none 0 0, .int .u8 0, .int .u8 0, .int .u64 0, .int .u64 0, .int .u64 0, .int .u64 0, .bool false, .int .u64 0, .slice none 0 0, .int .u64 0, .int .u64 0, .slice none 0 0], .slice none 0 0, .int .i64 4]) (by exact results_row3 Tryd.results18 _ _ rfl (Blk.row hOz #[.int .u64 0, .int .u64 0, .int .u64 0, .slice none 0 0, .int .u8 0, .int .u8 0, .int .u64 0, .int .u64 0, .int .u64 0, .int .u64 0, .bool false, .int .u64 0, .slice none 0 0, .int .u64 0, .int .u64 0, .slice none 0 0]) Tryd.underlying28 rfl (by rw [infoR28]; rfl)) rfl ?_
            have hBf := below_row hBz (Nat.le_refl w.heap.size) #[.int .u64 0, .int .u64 0, .int .u64 0, .slice none 0 0, .int .u8 0, .int .u8 0, .int .u64 0, .int .u64 0, .int .u64 0, .int .u64 0, .bool false, .int .u64 0, .slice none 0 0, .int .u64 0, .int .u64 0, .slice none 0 0]
            rw [HNO.out (HP.out.symm.trans (parse_fail hs))]
            exact ⟨⟨.slice none 0 0, .slice none 0 0, .slice none 0 0, .slice none 0 0, rfl, Rd.nil _ _, Rd.nil _ _, Rd.nil _ _, Rd.nil _ _⟩, hBf⟩
          · have hrk2 := (vtake_rest hbk ht).1
            have hrl := Nat.le_trans (vtake_rest hbk ht).2.1 hbl
            rcases hu : vtake r with _ | ⟨v3, r2⟩
            · have hs : stepL 101 x bl = none := by simp [stepL, ht, hu]
              have hr39 := hS.b.1
              have hl39 : bl.length ≤ 1099511627776 := by omega
              go_wp2_with fail
              (with_reducible refine (rtake_some _ bl v2 r _ hr39 hbk hl39 ht).mono ?_)
              rintro e w3 ⟨u3, rfl, ho3, hb3⟩
              have hS3 := (hS.kept hb3).withb (rdt_of_own ho3)
              have hB3 := hB.trans (hb3.mono hB.size)
              clear hS hB hb3 ho3 hr39
              have hr9 := hS3.b.1
              go_wp2_with fail
              (with_reducible refine (rtake_none _ r _ hr9 hrk2 hu).mono ?_)
              rintro e wx ⟨rfl, hbx⟩
              have hSf := hS3.kept hbx
              have hBz := hB3.trans (hbx.mono hB3.size)
              clear hS3 hB3 hbx hr9
              have hOz := hSf.res
              skip
              go_wp2_with (first | (refine wpList_store_row rfl _ _ _ rfl w.heap.size #[.int .u64 0, .int .u64 0, .int .u64 0, .slice none 0 0, .int .u8 0, .int .u8 0, .int .u64 0, .int .u64 0, .int .u64 0, .int .u64 0, .bool false, .int .u64 0, .slice none 0 0, .int .u64 0, .int .u64 0, .slice none 0 0] rfl rfl 28 #[.int .u64 0, .int .u64 0, .int .u64 0, .slice none 0 0, .int .u8 0, .int .u8 0, .int .u64 0, .int .u64 0, .int .u64 0, .int .u64 0, .bool false, .int .u64 0, .slice none 0 0, .int .u64 0, .int .u64 0, .slice none 0 0] hOz (by rw [infoR28]; rfl) rfl za_one ?_) | fail)
              refine bodyPost_ret (v := .tuple #[.agg #[.int .u64 0, .int .u64 0, .int .u64 0, .slice none 0 0, .int .u8 0, .int .u8 0, .int .u64 0, .int .u64 0, .int .u64 0, .int .u64 0, .bool false, .int .u64 0, .slice none 0 0, .int .u64 0, .int .u64 0, .slice none 0 0], .slice none 0 0, .int .i64 4]) (by exact results_row3 Tryd.results18 _ _ rfl (Blk.row hOz #[.int .u64 0, .int .u64 0, .int .u64 0, .slice none 0 0, .int .u8 0, .int .u8 0, .int .u64 0, .int .u64 0, .int .u64 0, .int .u64 0, .bool false, .int .u64 0, .slice none 0 0, .int .u64 0, .int .u64 0, .slice none 0 0]) Tryd.underlying28 rfl (by rw [infoR28]; rfl)) rfl ?_
              have hBf := below_row hBz (Nat.le_refl w.heap.size) #[.int .u64 0, .int .u64 0, .int .u64 0, .slice none 0 0, .int .u8 0, .int .u8 0, .int .u64 0, .int .u64 0, .int .u64 0, .int .u64 0, .bool false, .int .u64 0, .slice none 0 0, .int .u64 0, .int .u64 0, .slice none 0 0]
              rw [HNO.out (HP.out.symm.trans (parse_fail hs))]
              exact ⟨⟨.slice none 0 0, .slice none 0 0, .slice none 0 0, .slice none 0 0, rfl, Rd.nil _ _, Rd.nil _ _, Rd.nil _ _, Rd.nil _ _⟩, hBf⟩
            · have hs : stepL 101 x bl = some ({ x with eg := v2, eo := v3 }, r2) := by simp [stepL, ht, hu]
              have hr39 := hS.b.1
              have hl39 : bl.length ≤ 1099511627776 := by omega
              go_wp2_with fail
              (with_reducible refine (rtake_some _ bl v2 r _ hr39 hbk hl39 ht).mono ?_)
              rintro e w3 ⟨u3, rfl, ho3, hb3⟩
              have hS3 := (hS.kept hb3).withb (rdt_of_own ho3)
              have hB3 := hB.trans (hb3.mono hB.size)
              clear hS hB hb3 ho3 hr39
              have hr49 := hS3.b.1
              have hl49 : r.length ≤ 1099511627776 := by omega
              go_wp2_with fail
              (with_reducible refine (rtake_some _ r v3 r2 _ hr49 hrk2 hl49 hu).mono ?_)
              rintro e w4 ⟨u4, rfl, ho4, hb4⟩
              have hS4 := (hS3.kept hb4).withb (rdt_of_own ho4)
              have hB4 := hB3.trans (hb4.mono hB3.size)
              clear hS3 hB3 hb4 ho4 hr49
              have fz8 := hS4.frozen 8
              obtain ⟨o8, e8⟩ := hS4.old 8 (by decide)
              have fz9 := hS4.frozen 9
              obtain ⟨o9, e9⟩ := hS4.old 9 (by decide)
              go_wp2_with fail
              go_roundg (L.length - (pos + 1))
              case measure => omega
              case rel => exact ⟨pos + 1, { x with eg := v2, eo := v3 }, r2, rfl, hlt, (hS4.set (x' := { x with eg := v2 }) hrk 8 (.int .u64 v2) (fun _ _ _ => rfl) rfl rfl rfl).set hrk 9 (.int .u64 v3) (fun _ _ _ => rfl) rfl rfl rfl, (hB4.setCell hkw _).setCell hkw _, step_ri hcl hRI hs, Lib.hid ((parse_step hs).symm.trans HP.out)⟩
      · as_aux_lemma =>
          rcases ht : vtake bl with _ | ⟨v2, r⟩
          · have hs : stepL 103 x bl = none := by simp [stepL, ht]
            have hr9 := hS.b.1
            go_wp2_with fail
            (with_reducible refine (rtake_none _ bl _ hr9 hbk ht).mono ?_)
            rintro e wx ⟨rfl, hbx⟩
            have hSf := hS.kept hbx
            have hBz := hB.trans (hbx.mono hB.size)
            clear hS hB hbx hr9
            have hOz := hSf.res
            skip
            go_wp2_with (first | (refine wpList_store_row rfl _ _ _ rfl w.heap.size #[.int .u64 0, .int .u64 0, .int .u64 0, .slice none 0 0, .int .u8 0, .int .u8 0, .int .u64 0, .int .u64 0, .int .u64 0, .int .u64 0, .bool false, .int .u64 0, .slice none 0 0, .int .u64 0, .int .u64 0, .slice none 0 0] rfl rfl 28 #[.int .u64 0, .int .u64 0, .int .u64 0, .slice none 0 0, .int .u8 0, .int .u8 0, .int .u64 0, .int .u64 0, .int .u64 0, .int .u64 0, .bool false, .int .u64 0, .slice none 0 0, .int .u64 0, .int .u64 0, .slice none 0 0] hOz (by rw [infoR28]; rfl) rfl za_one ?_) | fail)
            refine bodyPost_ret (v := .tuple #[.agg #[.int .u64 0, .int .u64 0, .int .u64 0, .slice none 0 0, .int .u8 0, .int .u8 0, .int .u64 0, .int .u64 0, .int .u64 0, .int .u64 0, .bool false, .int .u64 0, .slice none 0 0, .int .u64 0, .int .u64 0, .slice none 0 0], .slice none 0 0, .int .i64 4]) (by exact results_row3 Tryd.results18 _ _ rfl (Blk.row hOz #[.int .u64 0, .int .u64 0, .int .u64 0, .slice none 0 0, .int .u8 0, .int .u8 0, .int .u64 0, .int .u64 0, .int .u64 0, .int .u64 0, .bool false, .int .u64 0, .slice none 0 0, .int .u64 0, .int .u64 0, .slice none 0 0]) Tryd.underlying28 rfl (by rw [infoR28]; rfl)) rfl ?_
            have hBf := below_row hBz (Nat.le_refl w.heap.size) #[.int .u64 0, .int .u64 0, .int .u64 0, .slice none 0 0, .int .u8 0, .int .u8 0, .int .u64 0, .int .u64 0, .int .u64 0, .int .u64 0, .bool false, .int .u64 0, .slice none 0 0, .int .u64 0, .int .u64 0, .slice none 0 0]
            rw [HNO.out (HP.out.symm.trans (parse_fail hs))]
            exact ⟨⟨.slice none 0 0, .slice none 0 0, .slice none 0 0, .slice none 0 0, rfl, Rd.nil _ _, Rd.nil _ _, Rd.nil _ _, Rd.nil _ _⟩, hBf⟩
          · have hs : stepL 103 x bl = some ({ x with eg := v2 }, r) := by simp [stepL, ht]
            have hr39 := hS.b.1
            have hl39 : bl.length ≤ 1099511627776 := by omega
            go_wp2_with fail
            (with_reducible refine (rtake_some _ bl v2 r _ hr39 hbk hl39 ht).mono ?_)
            rintro e w3 ⟨u3, rfl, ho3, hb3⟩
            have hS3 := (hS.kept hb3).withb (rdt_of_own ho3)
            have hB3 := hB.trans (hb3.mono hB.size)
            clear hS hB hb3 ho3 hr39
            have fz8 := hS3.frozen 8
            obtain ⟨o8, e8⟩ := hS3.old 8 (by decide)
            go_wp2_with fail
            go_roundg (L.length - (pos + 1))
            case measure => omega
            case rel => exact ⟨pos + 1, { x with eg := v2 }, r, rfl, hlt, hS3.set hrk 8 (.int .u64 v2) (fun _ _ _ => rfl) rfl rfl rfl, hB3.setCell hkw _, step_ri hcl hRI hs, Lib.hid ((parse_step hs).symm.trans HP.out)⟩
      · as_aux_lemma =>
          rcases bl with _ | ⟨v2, r⟩
          · have hs : stepL 98 x [] = none := by simp [stepL]
            have hBz := hB
            have hSf := hS
            clear hS hB
            have hOz := hSf.res
            skip
            go_wp2_with (first | (refine wpList_store_row rfl _ _ _ rfl w.heap.size #[.int .u64 0, .int .u64 0, .int .u64 0, .slice none 0 0, .int .u8 0, .int .u8 0, .int .u64 0, .int .u64 0, .int .u64 0, .int .u64 0, .bool false, .int .u64 0, .slice none 0 0, .int .u64 0, .int .u64 0, .slice none 0 0] rfl rfl 28 #[.int .u64 0, .int .u64 0, .int .u64 0, .slice none 0 0, .int .u8 0, .int .u8 0, .int .u64 0, .int .u64 0, .int .u64 0, .int .u64 0, .bool false, .int .u64 0, .slice none 0 0, .int .u64 0, .int .u64 0, .slice none 0 0] hOz (by rw [infoR28]; rfl) rfl za_one ?_) | fail)
            refine bodyPost_ret (v := .tuple #[.agg #[.int .u64 0, .int .u64 0, .int .u64 0, .slice none 0 0, .int .u8 0, .int .u8 0, .int .u64 0, .int .u64 0, .int .u64 0, .int .u64 0, .bool false, .int .u64 0, .slice none 0 0, .int .u64 0, .int .u64 0, .slice none 0 0], .slice none 0 0, .int .i64 4]) (by exact results_row3 Tryd.results18 _ _ rfl (Blk.row hOz #[.int .u64 0, .int .u64 0, .int .u64 0, .slice none 0 0, .int .u8 0, .int .u8 0, .int .u64 0, .int .u64 0, .int .u64 0, .int .u64 0, .bool false, .int .u64 0, .slice none 0 0, .int .u64 0, .int .u64 0, .slice none 0 0]) Tryd.underlying28 rfl (by rw [infoR28]; rfl)) rfl ?_
            have hBf := below_row hBz (Nat.le_refl w.heap.size) #[.int .u64 0, .int .u64 0, .int .u64 0, .slice none 0 0, .int .u8 0, .int .u8 0, .int .u64 0, .int .u64 0, .int .u64 0, .int .u64 0, .bool false, .int .u64 0, .slice none 0 0, .int .u64 0, .int .u64 0, .slice none 0 0]
            rw [HNO.out (HP.out.symm.trans (parse_fail hs))]
            exact ⟨⟨.slice none 0 0, .slice none 0 0, .slice none 0 0, .slice none 0 0, rfl, Rd.nil _ _, Rd.nil _ _, Rd.nil _ _, Rd.nil _ _⟩, hBf⟩
          · by_cases hle : v2 ≤ 1
            · have hs : stepL 98 x (v2 :: r) = some ({ x with sm := decide (v2 = 1) }, r) := by simp [stepL, hle]
              obtain ⟨g, off, rfl, _, d0⟩ := hS.b.1.at_ 0 (by simp)
              simp only [Nat.add_zero, List.getD_cons_zero] at d0
              obtain ⟨TA, TC, hT, hsl⟩ := cut_from hS.b 1 (by simp)
              have hv := hbk v2 (by simp)
              have hwr : IntKind.u64.wrap v2 = v2 := by rw [IntKind.wrap_u64]; omega
              have hwq : IntKind.u8.wrap v2 = v2 := by rw [IntKind.wrap_u8]; omega
              have hsl' : ∀ W, (Instr.slice 23 (.slice (some ⟨g, off, none⟩) (r.length + 1) cb) (some (.int .i64 1)) none none).run Tryd.prog W = .ok (.slice TA r.length TC) W := hsl
              have hT' : RdT wi (.slice TA r.length TC) r := hT
              clear hsl hT
              have hdt : decide (1 < v2) = false := decide_eq_false (by omega)
              have heq : (v2 == 1) = decide (v2 = 1) := by rfl
              go_wp2_with fail
              have Cd0 := Cls.cells d0 (World.block_lt_of_cell? _ _ d0)
              refine wp_region_cls (by kernel_rfl) (by kernel_rfl) ?_
              repeat (go_big_quiet_step (fail))
              refine wpQuiet_nil ?_
              intro w3 hb3
              have d0 := keepB_cell d0 w3 hb3
              clear Cd0
              have hS3 := (hS.kept hb3).withb (hT'.below hb3)
              have hB3 := hB.trans (hb3.mono hB.size)
              clear hS hB hb3 hT' d0
              have fz10 := hS3.frozen 10
              obtain ⟨o10, e10⟩ := hS3.old 10 (by decide)
              go_wp2_with fail
              go_roundg (L.length - (pos + 1))
              case measure => omega
              case rel => exact ⟨pos + 1, { x with sm := decide (v2 = 1) }, r, rfl, hlt, hS3.set hrk 10 (.bool (decide (v2 = 1))) (fun _ _ _ => rfl) rfl rfl rfl, hB3.setCell hkw _, step_ri hcl hRI hs, Lib.hid ((parse_step hs).symm.trans HP.out)⟩
            · have hs : stepL 98 x (v2 :: r) = none := by simp [stepL, hle]
              obtain ⟨g, off, rfl, _, d0⟩ := hS.b.1.at_ 0 (by simp)
              simp only [Nat.add_zero, List.getD_cons_zero] at d0
              obtain ⟨TA, TC, hT, hsl⟩ := cut_from hS.b 1 (by simp)
              have hv := hbk v2 (by simp)
              have hwr : IntKind.u64.wrap v2 = v2 := by rw [IntKind.wrap_u64]; omega
              have hwq : IntKind.u8.wrap v2 = v2 := by rw [IntKind.wrap_u8]; omega
              have hsl' : ∀ W, (Instr.slice 23 (.slice (some ⟨g, off, none⟩) (r.length + 1) cb) (some (.int .i64 1)) none none).run Tryd.prog W = .ok (.slice TA r.length TC) W := hsl
              have hT' : RdT wi (.slice TA r.length TC) r := hT
              clear hsl hT
              have hdt : decide (1 < v2) = true := decide_eq_true (by omega)
              go_wp2_with fail
              have Cd0 := Cls.cells d0 (World.block_lt_of_cell? _ _ d0)
              refine wp_region_cls (by kernel_rfl) (by kernel_rfl) ?_
              repeat (go_big_quiet_step (fail))
              refine wpQuiet_nil ?_
              intro w3 hb3
              have d0 := keepB_cell d0 w3 hb3
              clear Cd0
              have hS3 := (hS.kept hb3).withb (hT'.below hb3)
              have hB3 := hB.trans (hb3.mono hB.size)
              clear hS hB hb3 hT' d0
              have hOz := hS3.res
              skip
              go_wp2_with (first | (refine wpList_store_row rfl _ _ _ rfl w.heap.size #[.int .u64 0, .int .u64 0, .int .u64 0, .slice none 0 0, .int .u8 0, .int .u8 0, .int .u64 0, .int .u64 0, .int .u64 0, .int .u64 0, .bool false, .int .u64 0, .slice none 0 0, .int .u64 0, .int .u64 0, .slice none 0 0] rfl rfl 28 #[.int .u64 0, .int .u64 0, .int .u64 0, .slice none 0 0, .int .u8 0, .int .u8 0, .int .u64 0, .int .u64 0, .int .u64 0, .int .u64 0, .bool false, .int .u64 0, .slice none 0 0, .int .u64 0, .int .u64 0, .slice none 0 0] hOz (by rw [infoR28]; rfl) rfl za_one ?_) | fail)
              refine bodyPost_ret (v := .tuple #[.agg #[.int .u64 0, .int .u64 0, .int .u64 0, .slice none 0 0, .int .u8 0, .int .u8 0, .int .u64 0, .int .u64 0, .int .u64 0, .int .u64 0, .bool false, .int .u64 0, .slice none 0 0, .int .u64 0, .int .u64 0, .slice none 0 0], .slice none 0 0, .int .i64 4]) (by exact results_row3 Tryd.results18 _ _ rfl (Blk.row hOz #[.int .u64 0, .int .u64 0, .int .u64 0, .slice none 0 0, .int .u8 0, .int .u8 0, .int .u64 0, .int .u64 0, .int .u64 0, .int .u64 0, .bool false, .int .u64 0, .slice none 0 0, .int .u64 0, .int .u64 0, .slice none 0 0]) Tryd.underlying28 rfl (by rw [infoR28]; rfl)) rfl ?_
              have hBf := below_row hB3 (Nat.le_refl w.heap.size) #[.int .u64 0, .int .u64 0, .int .u64 0, .slice none 0 0, .int .u8 0, .int .u8 0, .int .u64 0, .int .u64 0, .int .u64 0, .int .u64 0, .bool false, .int .u64 0, .slice none 0 0, .int .u64 0, .int .u64 0, .slice none 0 0]
              rw [HNO.out (HP.out.symm.trans (parse_fail hs))]
              exact ⟨⟨.slice none 0 0, .slice none 0 0, .slice none 0 0, .slice none 0 0, rfl, Rd.nil _ _, Rd.nil _ _, Rd.nil _ _, Rd.nil _ _⟩, hBf⟩
      · as_aux_lemma =>
          rcases ht : vtake bl with _ | ⟨v2, r⟩
          · have hs : stepL 99 x bl = none := by simp [stepL, ht]
            have hr9 := hS.b.1
            go_wp2_with fail
            (with_reducible refine (rtake_none _ bl _ hr9 hbk ht).mono ?_)
            rintro e wx ⟨rfl, hbx⟩
            have hSf := hS.kept hbx
            have hBz := hB.trans (hbx.mono hB.size)
            clear hS hB hbx hr9
            have hOz := hSf.res
            skip
            go_wp2_with (first | (refine wpList_store_row rfl _ _ _ rfl w.heap.size #[.int .u64 0, .int .u64 0, .int .u64 0, .slice none 0 0, .int .u8 0, .int .u8 0, .int .u64 0, .int .u64 0, .int .u64 0, .int .u64 0, .bool false, .int .u64 0, .slice none 0 0, .int .u64 0, .int .u64 0, .slice none 0 0] rfl rfl 28 #[.int .u64 0, .int .u64 0, .int .u64 0, .slice none 0 0, .int .u8 0, .int .u8 0, .int .u64 0, .int .u64 0, .int .u64 0, .int .u64 0, .bool false, .int .u64 0, .slice none 0 0, .int .u64 0, .int .u64 0, .slice none 0 0] hOz (by rw [infoR28]; rfl) rfl za_one ?_) | fail)
            refine bodyPost_ret (v := .tuple #[.agg #[.int .u64 0, .int .u64 0, .int .u64 0, .slice none 0 0, .int .u8 0, .int .u8 0, .int .u64 0, .int .u64 0, .int .u64 0, .int .u64 0, .bool false, .int .u64 0, .slice none 0 0, .int .u64 0, .int .u64 0, .slice none 0 0], .slice none 0 0, .int .i64 4]) (by exact results_row3 Tryd.results18 _ _ rfl (Blk.row hOz #[.int .u64 0, .int .u64 0, .int .u64 0, .slice none 0 0, .int .u8 0, .int .u8 0, .int .u64 0, .int .u64 0, .int .u64 0, .int .u64 0, .bool false, .int .u64 0, .slice none 0 0, .int .u64 0, .int .u64 0, .slice none 0 0]) Tryd.underlying28 rfl (by rw [infoR28]; rfl)) rfl ?_
            have hBf := below_row hBz (Nat.le_refl w.heap.size) #[.int .u64 0, .int .u64 0, .int .u64 0, .slice none 0 0, .int .u8 0, .int .u8 0, .int .u64 0, .int .u64 0, .int .u64 0, .int .u64 0, .bool false, .int .u64 0, .slice none 0 0, .int .u64 0, .int .u64 0, .slice none 0 0]
            rw [HNO.out (HP.out.symm.trans (parse_fail hs))]
            exact ⟨⟨.slice none 0 0, .slice none 0 0, .slice none 0 0, .slice none 0 0, rfl, Rd.nil _ _, Rd.nil _ _, Rd.nil _ _, Rd.nil _ _⟩, hBf⟩
          · have hs : stepL 99 x bl = some ({ x with cd := v2 }, r) := by simp [stepL, ht]
            have hr39 := hS.b.1
            have hl39 : bl.length ≤ 1099511627776 := by omega
            go_wp2_with fail
            (with_reducible refine (rtake_some _ bl v2 r _ hr39 hbk hl39 ht).mono ?_)
            rintro e w3 ⟨u3, rfl, ho3, hb3⟩
            have hS3 := (hS.kept hb3).withb (rdt_of_own ho3)
            have hB3 := hB.trans (hb3.mono hB.size)
            clear hS hB hb3 ho3 hr39
            have fz11 := hS3.frozen 11
            obtain ⟨o11, e11⟩ := hS3.old 11 (by decide)
            go_wp2_with fail
            go_roundg (L.length - (pos + 1))
            case measure => omega
            case rel => exact ⟨pos + 1, { x with cd := v2 }, r, rfl, hlt, hS3.set hrk 11 (.int .u64 v2) (fun _ _ _ => rfl) rfl rfl rfl, hB3.setCell hkw _, step_ri hcl hRI hs, Lib.hid ((parse_step hs).symm.trans HP.out)⟩
      · as_aux_lemma =>
          have hty := rtext_allT _ bl 1048576 wi hS.b.1 hbk (by omega) (by decide)
          by_cases ht : (vtext bl 65536).2.2 = 0
          · have hs : stepL 114 x bl = some ({ x with rs := (vtext bl 65536).1 }, (vtext bl 65536).2.1) := by simp [stepL, ht]
            rw [(vtext_two hbk hbl).1 ht, ht] at hty
            go_wp2_with fail
            (with_reducible refine hty.mono ?_)
            clear hty
            rintro e w3 ⟨t1, t2, rfl, hr1, hr2, hb3⟩
            obtain ⟨A1, c1, rfl⟩ := hr1.form
            obtain ⟨A2, c2, rfl⟩ := hr2.form
            have hS3 := (hS.kept hb3).withb hr2
            have hB3 := hB.trans (hb3.mono hB.size)
            clear hS hB hb3
            have fz12 := hS3.frozen 12
            obtain ⟨o12, e12⟩ := hS3.old 12 (by decide)
            go_wp2_with fail
            go_roundg (L.length - (pos + 1))
            case measure => omega
            case rel => exact ⟨pos + 1, { x with rs := (vtext bl 65536).1 }, (vtext bl 65536).2.1, rfl, hlt, hS3.setr hrk (.slice A1 (vtext bl 65536).1.length c1) _ hr1, hB3.setCell hkw _, step_ri hcl hRI hs, Lib.hid ((parse_step hs).symm.trans HP.out)⟩
          · have hs : stepL 114 x bl = none := by simp [stepL, ht]
            have hn0 := (vtext_two hbk hbl).2 ht
            rcases vtext_codes bl 1048576 with e9 | e9 | e9
            · exact absurd e9 hn0
            · rw [e9] at hty
              go_wp2_with fail
              (with_reducible refine hty.mono ?_)
              clear hty
              rintro e w3 ⟨t1, t2, rfl, hr1, hr2, hb3⟩
              obtain ⟨A1, c1, rfl⟩ := hr1.form
              obtain ⟨A2, c2, rfl⟩ := hr2.form
              have hS3 := (hS.kept hb3).withb hr2
              have hB3 := hB.trans (hb3.mono hB.size)
              clear hS hB hb3
              have hOz := hS3.res
              skip
              go_wp2_with (first | (refine wpList_store_row rfl _ _ _ rfl w.heap.size #[.int .u64 0, .int .u64 0, .int .u64 0, .slice none 0 0, .int .u8 0, .int .u8 0, .int .u64 0, .int .u64 0, .int .u64 0, .int .u64 0, .bool false, .int .u64 0, .slice none 0 0, .int .u64 0, .int .u64 0, .slice none 0 0] rfl rfl 28 #[.int .u64 0, .int .u64 0, .int .u64 0, .slice none 0 0, .int .u8 0, .int .u8 0, .int .u64 0, .int .u64 0, .int .u64 0, .int .u64 0, .bool false, .int .u64 0, .slice none 0 0, .int .u64 0, .int .u64 0, .slice none 0 0] hOz (by rw [infoR28]; rfl) rfl za_one ?_) | fail)
              refine bodyPost_ret (v := .tuple #[.agg #[.int .u64 0, .int .u64 0, .int .u64 0, .slice none 0 0, .int .u8 0, .int .u8 0, .int .u64 0, .int .u64 0, .int .u64 0, .int .u64 0, .bool false, .int .u64 0, .slice none 0 0, .int .u64 0, .int .u64 0, .slice none 0 0], .slice none 0 0, .int .i64 4]) (by exact results_row3 Tryd.results18 _ _ rfl (Blk.row hOz #[.int .u64 0, .int .u64 0, .int .u64 0, .slice none 0 0, .int .u8 0, .int .u8 0, .int .u64 0, .int .u64 0, .int .u64 0, .int .u64 0, .bool false, .int .u64 0, .slice none 0 0, .int .u64 0, .int .u64 0, .slice none 0 0]) Tryd.underlying28 rfl (by rw [infoR28]; rfl)) rfl ?_
              have hBf := below_row hB3 (Nat.le_refl w.heap.size) #[.int .u64 0, .int .u64 0, .int .u64 0, .slice none 0 0, .int .u8 0, .int .u8 0, .int .u64 0, .int .u64 0, .int .u64 0, .int .u64 0, .bool false, .int .u64 0, .slice none 0 0, .int .u64 0, .int .u64 0, .slice none 0 0]
              rw [HNO.out (HP.out.symm.trans (parse_fail hs))]
              exact ⟨⟨.slice none 0 0, .slice none 0 0, .slice none 0 0, .slice none 0 0, rfl, Rd.nil _ _, Rd.nil _ _, Rd.nil _ _, Rd.nil _ _⟩, hBf⟩
            · rw [e9] at hty
              go_wp2_with fail
              (with_reducible refine hty.mono ?_)
              clear hty
              rintro e w3 ⟨t1, t2, rfl, hr1, hr2, hb3⟩
              obtain ⟨A1, c1, rfl⟩ := hr1.form
              obtain ⟨A2, c2, rfl⟩ := hr2.form
              have hS3 := (hS.kept hb3).withb hr2
              have hB3 := hB.trans (hb3.mono hB.size)
              clear hS hB hb3
              have hOz := hS3.res
              skip
              go_wp2_with (first | (refine wpList_store_row rfl _ _ _ rfl w.heap.size #[.int .u64 0, .int .u64 0, .int .u64 0, .slice none 0 0, .int .u8 0, .int .u8 0, .int .u64 0, .int .u64 0, .int .u64 0, .int .u64 0, .bool false, .int .u64 0, .slice none 0 0, .int .u64 0, .int .u64 0, .slice none 0 0] rfl rfl 28 #[.int .u64 0, .int .u64 0, .int .u64 0, .slice none 0 0, .int .u8 0, .int .u8 0, .int .u64 0, .int .u64 0, .int .u64 0, .int .u64 0, .bool false, .int .u64 0, .slice none 0 0, .int .u64 0, .int .u64 0, .slice none 0 0] hOz (by rw [infoR28]; rfl) rfl za_one ?_) | fail)
              refine bodyPost_ret (v := .tuple #[.agg #[.int .u64 0, .int .u64 0, .int .u64 0, .slice none 0 0, .int .u8 0, .int .u8 0, .int .u64 0, .int .u64 0, .int .u64 0, .int .u64 0, .bool false, .int .u64 0, .slice none 0 0, .int .u64 0, .int .u64 0, .slice none 0 0], .slice none 0 0, .int .i64 4]) (by exact results_row3 Tryd.results18 _ _ rfl (Blk.row hOz #[.int .u64 0, .int .u64 0, .int .u64 0, .slice none 0 0, .int .u8 0, .int .u8 0, .int .u64 0, .int .u64 0, .int .u64 0, .int .u64 0, .bool false, .int .u64 0, .slice none 0 0, .int .u64 0, .int .u64 0, .slice none 0 0]) Tryd.underlying28 rfl (by rw [infoR28]; rfl)) rfl ?_
              have hBf := below_row hB3 (Nat.le_refl w.heap.size) #[.int .u64 0, .int .u64 0, .int .u64 0, .slice none 0 0, .int .u8 0, .int .u8 0, .int .u64 0, .int .u64 0, .int .u64 0, .int .u64 0, .bool false, .int .u64 0, .slice none 0 0, .int .u64 0, .int .u64 0, .slice none 0 0]
              rw [HNO.out (HP.out.symm.trans (parse_fail hs))]
              exact ⟨⟨.slice none 0 0, .slice none 0 0, .slice none 0 0, .slice none 0 0, rfl, Rd.nil _ _, Rd.nil _ _, Rd.nil _ _, Rd.nil _ _⟩, hBf⟩
      · as_aux_lemma =>
          rcases ht : vtake bl with _ | ⟨v2, r⟩
          · have hs : stepL 110 x bl = none := by simp [stepL, ht]
            have hr9 := hS.b.1
            go_wp2_with fail
            (with_reducible refine (rtake_none _ bl _ hr9 hbk ht).mono ?_)
            rintro e wx ⟨rfl, hbx⟩
            have hSf := hS.kept hbx
            have hBz := hB.trans (hbx.mono hB.size)
            clear hS hB hbx hr9
            have hOz := hSf.res
            skip
            go_wp2_with (first | (refine wpList_store_row rfl _ _ _ rfl w.heap.size #[.int .u64 0, .int .u64 0, .int .u64 0, .slice none 0 0, .int .u8 0, .int .u8 0, .int .u64 0, .int .u64 0, .int .u64 0, .int .u64 0, .bool false, .int .u64 0, .slice none 0 0, .int .u64 0, .int .u64 0, .slice none 0 0] rfl rfl 28 #[.int .u64 0, .int .u64 0, .int .u64 0, .slice none 0 0, .int .u8 0, .int .u8 0, .int .u64 0, .int .u64 0, .int .u64 0, .int .u64 0, .bool false, .int .u64 0, .slice none 0 0, .int .u64 0, .int .u64 0, .slice none 0 0] hOz (by rw [infoR28]; rfl) rfl za_one ?_) | fail)
            refine bodyPost_ret (v := .tuple #[.agg #[.int .u64 0, .int .u64 0, .int .u64 0, .slice none 0 0, .int .u8 0, .int .u8 0, .int .u64 0, .int .u64 0, .int .u64 0, .int .u64 0, .bool false, .int .u64 0, .slice none 0 0, .int .u64 0, .int .u64 0, .slice none 0 0], .slice none 0 0, .int .i64 4]) (by exact results_row3 Tryd.results18 _ _ rfl (Blk.row hOz #[.int .u64 0, .int .u64 0, .int .u64 0, .slice none 0 0, .int .u8 0, .int .u8 0, .int .u64 0, .int .u64 0, .int .u64 0, .int .u64 0, .bool false, .int .u64 0, .slice none 0 0, .int .u64 0, .int .u64 0, .slice none 0 0]) Tryd.underlying28 rfl (by rw [infoR28]; rfl)) rfl ?_
            have hBf := below_row hBz (Nat.le_refl w.heap.size) #[.int .u64 0, .int .u64 0, .int .u64 0, .slice none 0 0, .int .u8 0, .int .u8 0, .int .u64 0, .int .u64 0, .int .u64 0, .int .u64 0, .bool false, .int .u64 0, .slice none 0 0, .int .u64 0, .int .u64 0, .slice none 0 0]
            rw [HNO.out (HP.out.symm.trans (parse_fail hs))]
            exact ⟨⟨.slice none 0 0, .slice none 0 0, .slice none 0 0, .slice none 0 0, rfl, Rd.nil _ _, Rd.nil _ _, Rd.nil _ _, Rd.nil _ _⟩, hBf⟩
          · have hs : stepL 110 x bl = some ({ x with n := v2 }, r) := by simp [stepL, ht]
            have hr39 := hS.b.1
            have hl39 : bl.length ≤ 1099511627776 := by omega
            go_wp2_with fail
            (with_reducible refine (rtake_some _ bl v2 r _ hr39 hbk hl39 ht).mono ?_)
            rintro e w3 ⟨u3, rfl, ho3, hb3⟩
            have hS3 := (hS.kept hb3).withb (rdt_of_own ho3)
            have hB3 := hB.trans (hb3.mono hB.size)
            clear hS hB hb3 ho3 hr39
            have fz13 := hS3.frozen 13
            obtain ⟨o13, e13⟩ := hS3.old 13 (by decide)
            go_wp2_with fail
            go_roundg (L.length - (pos + 1))
            case measure => omega
            case rel => exact ⟨pos + 1, { x with n := v2 }, r, rfl, hlt, hS3.set hrk 13 (.int .u64 v2) (fun _ _ _ => rfl) rfl rfl rfl, hB3.setCell hkw _, step_ri hcl hRI hs, Lib.hid ((parse_step hs).symm.trans HP.out)⟩
      · as_aux_lemma =>
          rcases ht : vtake bl with _ | ⟨v2, r⟩
          · have hs : stepL 118 x bl = none := by simp [stepL, ht]
            have hr9 := hS.b.1
            go_wp2_with fail
            (with_reducible refine (rtake_none _ bl _ hr9 hbk ht).mono ?_)
            rintro e wx ⟨rfl, hbx⟩
            have hSf := hS.kept hbx
            have hBz := hB.trans (hbx.mono hB.size)
            clear hS hB hbx hr9
            have hOz := hSf.res
            skip
            go_wp2_with (first | (refine wpList_store_row rfl _ _ _ rfl w.heap.size #[.int .u64 0, .int .u64 0, .int .u64 0, .slice none 0 0, .int .u8 0, .int .u8 0, .int .u64 0, .int .u64 0, .int .u64 0, .int .u64 0, .bool false, .int .u64 0, .slice none 0 0, .int .u64 0, .int .u64 0, .slice none 0 0] rfl rfl 28 #[.int .u64 0, .int .u64 0, .int .u64 0, .slice none 0 0, .int .u8 0, .int .u8 0, .int .u64 0, .int .u64 0, .int .u64 0, .int .u64 0, .bool false, .int .u64 0, .slice none 0 0, .int .u64 0, .int .u64 0, .slice none 0 0] hOz (by rw [infoR28]; rfl) rfl za_one ?_) | fail)
            refine bodyPost_ret (v := .tuple #[.agg #[.int .u64 0, .int .u64 0, .int .u64 0, .slice none 0 0, .int .u8 0, .int .u8 0, .int .u64 0, .int .u64 0, .int .u64 0, .int .u64 0, .bool false, .int .u64 0, .slice none 0 0, .int .u64 0, .int .u64 0, .slice none 0 0], .slice none 0 0, .int .i64 4]) (by exact results_row3 Tryd.results18 _ _ rfl (Blk.row hOz #[.int .u64 0, .int .u64 0, .int .u64 0, .slice none 0 0, .int .u8 0, .int .u8 0, .int .u64 0, .int .u64 0, .int .u64 0, .int .u64 0, .bool false, .int .u64 0, .slice none 0 0, .int .u64 0, .int .u64 0, .slice none 0 0]) Tryd.underlying28 rfl (by rw [infoR28]; rfl)) rfl ?_
            have hBf := below_row hBz (Nat.le_refl w.heap.size) #[.int .u64 0, .int .u64 0, .int .u64 0, .slice none 0 0, .int .u8 0, .int .u8 0, .int .u64 0, .int .u64 0, .int .u64 0, .int .u64 0, .bool false, .int .u64 0, .slice none 0 0, .int .u64 0, .int .u64 0, .slice none 0 0]
            rw [HNO.out (HP.out.symm.trans (parse_fail hs))]
            exact ⟨⟨.slice none 0 0, .slice none 0 0, .slice none 0 0, .slice none 0 0, rfl, Rd.nil _ _, Rd.nil _ _, Rd.nil _ _, Rd.nil _ _⟩, hBf⟩
          · have hs : stepL 118 x bl = some ({ x with ve := v2 }, r) := by simp [stepL, ht]
            have hr39 := hS.b.1
            have hl39 : bl.length ≤ 1099511627776 := by omega
            go_wp2_with fail
            (with_reducible refine (rtake_some _ bl v2 r _ hr39 hbk hl39 ht).mono ?_)
            rintro e w3 ⟨u3, rfl, ho3, hb3⟩
            have hS3 := (hS.kept hb3).withb (rdt_of_own ho3)
            have hB3 := hB.trans (hb3.mono hB.size)
            clear hS hB hb3 ho3 hr39
            have fz14 := hS3.frozen 14
            obtain ⟨o14, e14⟩ := hS3.old 14 (by decide)
            go_wp2_with fail
            go_roundg (L.length - (pos + 1))
            case measure => omega
            case rel => exact ⟨pos + 1, { x with ve := v2 }, r, rfl, hlt, hS3.set hrk 14 (.int .u64 v2) (fun _ _ _ => rfl) rfl rfl rfl, hB3.setCell hkw _, step_ri hcl hRI hs, Lib.hid ((parse_step hs).symm.trans HP.out)⟩
      · as_aux_lemma =>
          rcases ht : vtake bl with _ | ⟨v2, r⟩
          · have hs : stepL 108 x bl = none := by simp [stepL, ht]
            have hr9 := hS.b.1
            go_wp2_with fail
            (with_reducible refine (rtake_none _ bl _ hr9 hbk ht).mono ?_)
            rintro e wx ⟨rfl, hbx⟩
            have hSf := hS.kept hbx
            have hBz := hB.trans (hbx.mono hB.size)
            clear hS hB hbx hr9
            have hOz := hSf.res
            skip
            go_wp2_with (first | (refine wpList_store_row rfl _ _ _ rfl w.heap.size #[.int .u64 0, .int .u64 0, .int .u64 0, .slice none 0 0, .int .u8 0, .int .u8 0, .int .u64 0, .int .u64 0, .int .u64 0, .int .u64 0, .bool false, .int .u64 0, .slice none 0 0, .int .u64 0, .int .u64 0, .slice none 0 0] rfl rfl 28 #[.int .u64 0, .int .u64 0, .int .u64 0, .slice none 0 0, .int .u8 0, .int .u8 0, .int .u64 0, .int .u64 0, .int .u64 0, .int .u64 0, .bool false, .int .u64 0, .slice none 0 0, .int .u64 0, .int .u64 0, .slice none 0 0] hOz (by rw [infoR28]; rfl) rfl za_one ?_) | fail)
            refine bodyPost_ret (v := .tuple #[.agg #[.int .u64 0, .int .u64 0, .int .u64 0, .slice none 0 0, .int .u8 0, .int .u8 0, .int .u64 0, .int .u64 0, .int .u64 0, .int .u64 0, .bool false, .int .u64 0, .slice none 0 0, .int .u64 0, .int .u64 0, .slice none 0 0], .slice none 0 0, .int .i64 4]) (by exact results_row3 Tryd.results18 _ _ rfl (Blk.row hOz #[.int .u64 0, .int .u64 0, .int .u64 0, .slice none 0 0, .int .u8 0, .int .u8 0, .int .u64 0, .int .u64 0, .int .u64 0, .int .u64 0, .bool false, .int .u64 0, .slice none 0 0, .int .u64 0, .int .u64 0, .slice none 0 0]) Tryd.underlying28 rfl (by rw [infoR28]; rfl)) rfl ?_
            have hBf := below_row hBz (Nat.le_refl w.heap.size) #[.int .u64 0, .int .u64 0, .int .u64 0, .slice none 0 0, .int .u8 0, .int .u8 0, .int .u64 0, .int .u64 0, .int .u64 0, .int .u64 0, .bool false, .int .u64 0, .slice none 0 0, .int .u64 0, .int .u64 0, .slice none 0 0]
            rw [HNO.out (HP.out.symm.trans (parse_fail hs))]
            exact ⟨⟨.slice none 0 0, .slice none 0 0, .slice none 0 0, .slice none 0 0, rfl, Rd.nil _ _, Rd.nil _ _, Rd.nil _ _, Rd.nil _ _⟩, hBf⟩
          · have hv2 := (vtake_rest hbk ht).2.2
            have hrk2 := (vtake_rest hbk ht).1
            have hrl := Nat.le_trans (vtake_rest hbk ht).2.1 hbl
            by_cases hle : v2 ≤ 8
            · have hdt : decide (8 < v2) = false := decide_eq_false (by omega)
              have hr39 := hS.b.1
              have hl39 : bl.length ≤ 1099511627776 := by omega
              go_wp2_with fail
              (with_reducible refine (rtake_some _ bl v2 r _ hr39 hbk hl39 ht).mono ?_)
              rintro e w3 ⟨u3, rfl, ho3, hb3⟩
              have hS3 := (hS.kept hb3).withb (rdt_of_own ho3)
              have hB3 := hB.trans (hb3.mono hB.size)
              clear hS hB hb3 ho3 hr39
              have HT := Lib.hid ht
              clear ht
              have hvl := hRI.vl
              go_wp2_with fail
              go_loopw [10, 192] (fun (s10 s192 : Value) (wr : World) => ∃ (j : Nat) (a b : List Int), (j : Int) ≤ v2 ∧ s192 = .int .u64 j ∧ Hid (takeN v2.toNat x.vs r = takeN (v2.toNat - j) a b) ∧ a.length ≤ 8 * pos + j ∧ BytesOk b ∧ b.length ≤ 65535 ∧ RS wr w.heap.size w.heap.size kb ib L (pos + 1) { x with vs := a } s10 b (.slice SA sn SC) be ∧ Below w.heap.size w wr) (fun s10 s192 _ => v2.toNat - (intOf s192).toNat)
              case atStart => exact ⟨0, x.vs, r, by omega, rfl, Lib.hid rfl, by omega, hrk2, hrl, hS3, hB3⟩
              case round =>
                clear hS3 hB3
                obtain ⟨j, a, b, hjv, rfl, HTK, haj, hbk2, hbl2, hS4, hB4⟩ := hrel
                by_cases hlt2 : (j : Int) < v2
                · have hvj : v2.toNat - j = (v2.toNat - (j + 1)) + 1 := by omega
                  rcases htb : vtake b with _ | ⟨n2, r2⟩
                  · have hno : takeN v2.toNat x.vs r = none := by rw [HTK.out, hvj]; simp [takeN, htb]
                    have hs : stepL 108 x bl = none := by simp [stepL, HT.out, hle, hno]
                    clear hno hvj
                    have hr9 := hS4.b.1
                    go_wp2_with fail
                    (with_reducible refine (rtake_none _ b _ hr9 hbk2 htb).mono ?_)
                    rintro e wx ⟨rfl, hbx⟩
                    have hSf := hS4.kept hbx
                    have hBz := hB4.trans (hbx.mono hB4.size)
                    clear hS4 hB4 hbx hr9
                    have hOz := hSf.res
                    skip
                    go_wp2_with (first | (refine wpList_store_row rfl _ _ _ rfl w.heap.size #[.int .u64 0, .int .u64 0, .int .u64 0, .slice none 0 0, .int .u8 0, .int .u8 0, .int .u64 0, .int .u64 0, .int .u64 0, .int .u64 0, .bool false, .int .u64 0, .slice none 0 0, .int .u64 0, .int .u64 0, .slice none 0 0] rfl rfl 28 #[.int .u64 0, .int .u64 0, .int .u64 0, .slice none 0 0, .int .u8 0, .int .u8 0, .int .u64 0, .int .u64 0, .int .u64 0, .int .u64 0, .bool false, .int .u64 0, .slice none 0 0, .int .u64 0, .int .u64 0, .slice none 0 0] hOz (by rw [infoR28]; rfl) rfl za_one ?_) | fail)
                    refine bodyPost_ret (v := .tuple #[.agg #[.int .u64 0, .int .u64 0, .int .u64 0, .slice none 0 0, .int .u8 0, .int .u8 0, .int .u64 0, .int .u64 0, .int .u64 0, .int .u64 0, .bool false, .int .u64 0, .slice none 0 0, .int .u64 0, .int .u64 0, .slice none 0 0], .slice none 0 0, .int .i64 4]) (by exact results_row3 Tryd.results18 _ _ rfl (Blk.row hOz #[.int .u64 0, .int .u64 0, .int .u64 0, .slice none 0 0, .int .u8 0, .int .u8 0, .int .u64 0, .int .u64 0, .int .u64 0, .int .u64 0, .bool false, .int .u64 0, .slice none 0 0, .int .u64 0, .int .u64 0, .slice none 0 0]) Tryd.underlying28 rfl (by rw [infoR28]; rfl)) rfl ?_
                    have hBf := below_row hBz (Nat.le_refl w.heap.size) #[.int .u64 0, .int .u64 0, .int .u64 0, .slice none 0 0, .int .u8 0, .int .u8 0, .int .u64 0, .int .u64 0, .int .u64 0, .int .u64 0, .bool false, .int .u64 0, .slice none 0 0, .int .u64 0, .int .u64 0, .slice none 0 0]
                    rw [HNO.out (HP.out.symm.trans (parse_fail hs))]
                    exact ⟨⟨.slice none 0 0, .slice none 0 0, .slice none 0 0, .slice none 0 0, rfl, Rd.nil _ _, Rd.nil _ _, Rd.nil _ _, Rd.nil _ _⟩, hBf⟩
                  · have hyes : takeN v2.toNat x.vs r = takeN (v2.toNat - (j + 1)) (a ++ [n2]) r2 := by rw [HTK.out, hvj]; simp [takeN, htb]
                    have HYES := Lib.hid hyes
                    clear hyes hvj
                    have hr59 := hS4.b.1
                    have hl59 : b.length ≤ 1099511627776 := by omega
                    go_wp2_with fail
                    (with_reducible refine (rtake_some _ b n2 r2 _ hr59 hbk2 hl59 htb).mono ?_)
                    rintro e w5 ⟨u5, rfl, ho5, hb5⟩
                    have hS5 := (hS4.kept hb5).withb (rdt_of_own ho5)
                    have hB5 := hB4.trans (hb5.mono hB4.size)
                    clear hS4 hB4 hb5 ho5 hr59
                    obtain ⟨k1, k2, k3, k4, nv, rv, vv, hO, k6, k7, k8⟩ := hS5
                    obtain ⟨vA, vc, rfl⟩ := (rd_of_own k8).form
                    have c15 : w5.cell? ⟨kb, 15, none⟩ = some (.slice vA a.length vc) := hO.cell 15
                    have hbX : Below w5.heap.size w5 (w5.alloc (.cells #[.int .u64 n2] 22)) := (Below.refl _ _).alloc (Nat.le_refl _) _
                    have k8X := own_same k8 hbX
                    have OX := hO.same hbX
                    have rvX := rdv_litU w5 n2
                    have szX : w.heap.size ≤ (w5.alloc (.cells #[.int .u64 n2] 22)).heap.size := Nat.le_trans hB5.size hbX.size
                    have x15 : (w5.alloc (.cells #[.int .u64 n2] 22)).cell? ⟨kb, 15, none⟩ = some (.slice vA a.length vc) := OX.cell 15
                    have haj2 : a.length ≤ 100 := by omega
                    go_wp2_with (at_builtin; (refine wpList_append_any _ rfl _ _ 26 rfl w.heap.size 22 iU _ 1 8 Tryd.underlying26 hiU hu0 hu1 hu2 rfl (by decide) (.slice vA a.length vc) a.length _ rfl k8X (some ⟨w5.heap.size, 0, none⟩) 1 1 [.int .u64 n2] rfl rvX (oneInts .u64 [n2]) (by unfold maxLen; omega) (by omega) szX (fun h => by cases h) ?_; intro v9 w9 hown9 hgrow9 hat9; obtain ⟨A9, c9, e9, -⟩ := sl_of_own hown9; subst e9; have O9 := OX.grown hgrow9 (fun e => own_blk_ne k8X OX (by decide) e.symm); have e15 : w9.cell? ⟨kb, 15, none⟩ = some (.slice vA a.length vc) := O9.cell 15; have f15 := O9.frozen 15; have hB9 := (hB5.trans (hbX.mono hB5.size)).grown hgrow9 szX (fun b hb => (k8X.lt b hb).1)))
                    go_roundw
                    case rel => exact ⟨j + 1, a ++ [n2], r2, by omega, by go_num, HYES, by rw [List.length_append]; simp; omega, (vtake_rest hbk2 htb).1, Nat.le_trans (vtake_rest hbk2 htb).2.1 hbl2, RS.app (x := { x with vs := a }) (k1.same hbX) (k2.below hbX) (k3.below hbX) (k4.below hbX) hrk OX (k6.below hbX) (k7.below hbX) k8X rfl hgrow9 hown9, hB9.setCell hkw _⟩
                    case measure => (simp [intOf]; omega)
                · obtain rfl : v2 = (j : Int) := by omega
                  have htk : takeN ((j : Int)).toNat x.vs r = some (a, b) := by rw [HTK.out, show ((j : Int)).toNat - j = 0 by omega]; rfl
                  have hs : stepL 108 x bl = some ({ x with vs := a }, b) := by simp only [stepL, HT.out]; simp [hle, show takeN j x.vs r = some (a, b) from htk]
                  clear htk HTK HT
                  go_wp2_with fail
                  go_roundg (L.length - (pos + 1))
                  case measure => omega
                  case rel => exact ⟨pos + 1, { x with vs := a }, b, rfl, hlt, hS4, hB4, step_ri hcl hRI hs, Lib.hid ((parse_step hs).symm.trans HP.out)⟩
            · have hs : stepL 108 x bl = none := by simp [stepL, ht, hle]
              have hdt : decide (8 < v2) = true := decide_eq_true (by omega)
              have hr39 := hS.b.1
              have hl39 : bl.length ≤ 1099511627776 := by omega
              go_wp2_with fail
              (with_reducible refine (rtake_some _ bl v2 r _ hr39 hbk hl39 ht).mono ?_)
              rintro e w3 ⟨u3, rfl, ho3, hb3⟩
              have hS3 := (hS.kept hb3).withb (rdt_of_own ho3)
              have hB3 := hB.trans (hb3.mono hB.size)
              clear hS hB hb3 ho3 hr39
              have hOz := hS3.res
              skip
              go_wp2_with (first | (refine wpList_store_row rfl _ _ _ rfl w.heap.size #[.int .u64 0, .int .u64 0, .int .u64 0, .slice none 0 0, .int .u8 0, .int .u8 0, .int .u64 0, .int .u64 0, .int .u64 0, .int .u64 0, .bool false, .int .u64 0, .slice none 0 0, .int .u64 0, .int .u64 0, .slice none 0 0] rfl rfl 28 #[.int .u64 0, .int .u64 0, .int .u64 0, .slice none 0 0, .int .u8 0, .int .u8 0, .int .u64 0, .int .u64 0, .int .u64 0, .int .u64 0, .bool false, .int .u64 0, .slice none 0 0, .int .u64 0, .int .u64 0, .slice none 0 0] hOz (by rw [infoR28]; rfl) rfl za_one ?_) | fail)
              refine bodyPost_ret (v := .tuple #[.agg #[.int .u64 0, .int .u64 0, .int .u64 0, .slice none 0 0, .int .u8 0, .int .u8 0, .int .u64 0, .int .u64 0, .int .u64 0, .int .u64 0, .bool false, .int .u64 0, .slice none 0 0, .int .u64 0, .int .u64 0, .slice none 0 0], .slice none 0 0, .int .i64 4]) (by exact results_row3 Tryd.results18 _ _ rfl (Blk.row hOz #[.int .u64 0, .int .u64 0, .int .u64 0, .slice none 0 0, .int .u8 0, .int .u8 0, .int .u64 0, .int .u64 0, .int .u64 0, .int .u64 0, .bool false, .int .u64 0, .slice none 0 0, .int .u64 0, .int .u64 0, .slice none 0 0]) Tryd.underlying28 rfl (by rw [infoR28]; rfl)) rfl ?_
              have hBf := below_row hB3 (Nat.le_refl w.heap.size) #[.int .u64 0, .int .u64 0, .int .u64 0, .slice none 0 0, .int .u8 0, .int .u8 0, .int .u64 0, .int .u64 0, .int .u64 0, .int .u64 0, .bool false, .int .u64 0, .slice none 0 0, .int .u64 0, .int .u64 0, .slice none 0 0]
              rw [HNO.out (HP.out.symm.trans (parse_fail hs))]
              exact ⟨⟨.slice none 0 0, .slice none 0 0, .slice none 0 0, .slice none 0 0, rfl, Rd.nil _ _, Rd.nil _ _, Rd.nil _ _, Rd.nil _ _⟩, hBf⟩
    · have hnx := hS.it.end_ (P := Tryd.prog) hlt
      obtain ⟨bA0, bc0, rfl⟩ := hS.b.form
      have hps : parse L (M.nil k) b0 = some (x, bl) := by rw [← HP.out, List.drop_of_length_le (by omega)]; rfl
      have HPS := Lib.hid hps
      clear hps HP
      rcases bl with _ | ⟨v2, r⟩
      · have hxo := hRI.ok
        have hfit : x.Fit := ⟨by have := hRI.nl; omega, by have := hRI.rl; omega, by have := hRI.vl; have := HL7.out; omega⟩
        obtain ⟨k1, k2, k3, k4, nv, rv, vv, hO, k6, k7, k8⟩ := hS
        obtain ⟨nA, nc, rfl⟩ := k6.form
        obtain ⟨rA, rc, rfl⟩ := k7.form
        obtain ⟨vA, vc, rfl⟩ := (rd_of_own k8).form
        clear k2 k3
        obtain ⟨y, hy⟩ : ∃ y, y = x := ⟨_, rfl⟩
        rw [← hy] at hO k6 k7 k8 hxo hfit HPS
        clear hy hRI
        have hX : Blk wr kb 28 #[.int .u64 y.kd, .int .u64 y.id, .int .u64 y.al, .slice nA y.nm.length nc, .int .u8 y.pr, .int .u8 y.od, .int .u64 y.sg, .int .u64 y.so, .int .u64 y.eg, .int .u64 y.eo, .bool y.sm, .int .u64 y.cd, .slice rA y.rs.length rc, .int .u64 y.n, .int .u64 y.ve, .slice vA y.vs.length vc] := hO
        clear hO
        have hrt := rright_all y (.slice nA y.nm.length nc) (.slice rA y.rs.length rc) (.slice vA y.vs.length vc) wr ⟨k6.1, k7.1, rd_of_own k8⟩ hxo hfit (rt y) (rt_iff y hxo)
        have a0 : wr.cell? ⟨kb, 0, none⟩ = some (.int .u64 y.kd) := hX.cell 0
        have a1 : wr.cell? ⟨kb, 1, none⟩ = some (.int .u64 y.id) := hX.cell 1
        have a2 : wr.cell? ⟨kb, 2, none⟩ = some (.int .u64 y.al) := hX.cell 2
        have a3 : wr.cell? ⟨kb, 3, none⟩ = some (.slice nA y.nm.length nc) := hX.cell 3
        have a4 : wr.cell? ⟨kb, 4, none⟩ = some (.int .u8 y.pr) := hX.cell 4
        have a5 : wr.cell? ⟨kb, 5, none⟩ = some (.int .u8 y.od) := hX.cell 5
        have a6 : wr.cell? ⟨kb, 6, none⟩ = some (.int .u64 y.sg) := hX.cell 6
        have a7 : wr.cell? ⟨kb, 7, none⟩ = some (.int .u64 y.so) := hX.cell 7
        have a8 : wr.cell? ⟨kb, 8, none⟩ = some (.int .u64 y.eg) := hX.cell 8
        have a9 : wr.cell? ⟨kb, 9, none⟩ = some (.int .u64 y.eo) := hX.cell 9
        have a10 : wr.cell? ⟨kb, 10, none⟩ = some (.bool y.sm) := hX.cell 10
        have a11 : wr.cell? ⟨kb, 11, none⟩ = some (.int .u64 y.cd) := hX.cell 11
        have a12 : wr.cell? ⟨kb, 12, none⟩ = some (.slice rA y.rs.length rc) := hX.cell 12
        have a13 : wr.cell? ⟨kb, 13, none⟩ = some (.int .u64 y.n) := hX.cell 13
        have a14 : wr.cell? ⟨kb, 14, none⟩ = some (.int .u64 y.ve) := hX.cell 14
        have a15 : wr.cell? ⟨kb, 15, none⟩ = some (.slice vA y.vs.length vc) := hX.cell 15
        cases hry : rt y with
        | false =>
          rw [hry] at hrt
          go_wp2_with fail
          (with_reducible refine hrt.mono ?_)
          clear hrt
          rintro e w3 ⟨rfl, hb3⟩
          have hOz := k1.same hb3
          have hBz := hB.trans (hb3.mono hB.size)
          clear k1 hB hb3 k4 k6 k7 k8 hX a0 a1 a2 a3 a4 a5 a6 a7 a8 a9 a10 a11 a12 a13 a14 a15
          go_wp2_with (first | (refine wpList_store_row rfl _ _ _ rfl w.heap.size #[.int .u64 0, .int .u64 0, .int .u64 0, .slice none 0 0, .int .u8 0, .int .u8 0, .int .u64 0, .int .u64 0, .int .u64 0, .int .u64 0, .bool false, .int .u64 0, .slice none 0 0, .int .u64 0, .int .u64 0, .slice none 0 0] rfl rfl 28 #[.int .u64 0, .int .u64 0, .int .u64 0, .slice none 0 0, .int .u8 0, .int .u8 0, .int .u64 0, .int .u64 0, .int .u64 0, .int .u64 0, .bool false, .int .u64 0, .slice none 0 0, .int .u64 0, .int .u64 0, .slice none 0 0] hOz (by rw [infoR28]; rfl) rfl za_one ?_) | fail)
          refine bodyPost_ret (v := .tuple #[.agg #[.int .u64 0, .int .u64 0, .int .u64 0, .slice none 0 0, .int .u8 0, .int .u8 0, .int .u64 0, .int .u64 0, .int .u64 0, .int .u64 0, .bool false, .int .u64 0, .slice none 0 0, .int .u64 0, .int .u64 0, .slice none 0 0], .slice none 0 0, .int .i64 4]) (by exact results_row3 Tryd.results18 _ _ rfl (Blk.row hOz #[.int .u64 0, .int .u64 0, .int .u64 0, .slice none 0 0, .int .u8 0, .int .u8 0, .int .u64 0, .int .u64 0, .int .u64 0, .int .u64 0, .bool false, .int .u64 0, .slice none 0 0, .int .u64 0, .int .u64 0, .slice none 0 0]) Tryd.underlying28 rfl (by rw [infoR28]; rfl)) rfl ?_
          have hBf := below_row hBz (Nat.le_refl w.heap.size) #[.int .u64 0, .int .u64 0, .int .u64 0, .slice none 0 0, .int .u8 0, .int .u8 0, .int .u64 0, .int .u64 0, .int .u64 0, .int .u64 0, .bool false, .int .u64 0, .slice none 0 0, .int .u64 0, .int .u64 0, .slice none 0 0]
          rw [HMORE.out _ _ HPS.out (.inr (by rw [hry]))]
          exact ⟨⟨.slice none 0 0, .slice none 0 0, .slice none 0 0, .slice none 0 0, rfl, Rd.nil _ _, Rd.nil _ _, Rd.nil _ _, Rd.nil _ _⟩, hBf⟩
        | true =>
          rw [hry] at hrt
          go_wp2_with fail
          (with_reducible refine hrt.mono ?_)
          clear hrt
          rintro e w6 ⟨rfl, hb3⟩
          have hO6 := k1.same hb3
          have hB6 := hB.trans (hb3.mono hB.size)
          have hX6 := hX.same hb3
          have hN6 := k6.below hb3
          have hR6 := k7.below hb3
          have hV6 := own_same k8 hb3
          have hE6 := k4.below hb3
          clear k1 hB hb3 k4 k6 k7 k8 hX a0 a1 a2 a3 a4 a5 a6 a7 a8 a9 a10 a11 a12 a13 a14 a15
          go_upto_region 79 with fail
          refine r79 w w6 kb sn SC nc rc vc w.heap.size SA nA rA vA y be _ _ _ _ _ _ _ _ _ _ _ _ _ _ _ _ _ _ _ _ _ _ _ _ _ _ _ _ _ _ _ _ _ _ _ _ _ _ _ _ _ _ _ _ _ _ _ _ _ _ _ _ _ _ _ _ _ _ _ _ _ _ _ _ _ _ _ _ _ _ _ _ _ _ _ _ _ _ _ _ _ _ _ _ _ _ _ _ _ _ _ _ _ _ _ _ _ _ _ _ _ _ _ _ _ _ _ _ _ _ _ _ _ _ _ _ _ _ _ _ _ _ _ _ _ _ _ _ _ _ _ _ _ _ _ _ _ _ _ _ _ _ _ _ _ _ _ _ _ _ _ _ _ _ _ _ _ _ _ _ _ _ _ _ _ _ _ _ _ _ _ _ _ _ _ _ _ _ _ _ _ _ _ _ _ _ _ _ _ _ _ _ _ _ _ _ _ _ _ _ _ _ _ _ _ _ _ _ _ _ _ _ _ _ _ _ _ _ _ _ _ _ hB6 hO6 hX6 (Ne.symm hrk) hN6 hR6 hV6 hE6.1 hbeL ?_
          intro bA bc x220 x221 x222 w8 hOf hN8 hR8 hV8 hb8 hBf
          go_wp2_with fail
          refine bodyPost_ret (v := .tuple #[.agg #[.int .u64 y.kd, .int .u64 y.id, .int .u64 y.al, .slice nA y.nm.length nc, .int .u8 y.pr, .int .u8 y.od, .int .u64 y.sg, .int .u64 y.so, .int .u64 y.eg, .int .u64 y.eo, .bool y.sm, .int .u64 y.cd, .slice rA y.rs.length rc, .int .u64 y.n, .int .u64 y.ve, .slice vA y.vs.length vc], .slice bA be.length bc, .int .i64 0]) (by exact results_row3 Tryd.results18 _ _ rfl hOf Tryd.underlying28 rfl (by rw [infoR28]; rfl)) rfl ?_
          rw [HYES.out _ HPS.out hry]
          exact ⟨⟨_, _, _, _, rfl, hN8.1, hR8.1, rd_of_own hV8, hb8.1⟩, hBf⟩
      · have hdl : decide (0 < ((v2 :: r).length : Int)) = true := decide_eq_true (by rw [List.length_cons]; omega)
        have hOz := hS.res
        have hBz := hB
        clear hB
        go_wp2_with (first | (refine wpList_store_row rfl _ _ _ rfl w.heap.size #[.int .u64 0, .int .u64 0, .int .u64 0, .slice none 0 0, .int .u8 0, .int .u8 0, .int .u64 0, .int .u64 0, .int .u64 0, .int .u64 0, .bool false, .int .u64 0, .slice none 0 0, .int .u64 0, .int .u64 0, .slice none 0 0] rfl rfl 28 #[.int .u64 0, .int .u64 0, .int .u64 0, .slice none 0 0, .int .u8 0, .int .u8 0, .int .u64 0, .int .u64 0, .int .u64 0, .int .u64 0, .bool false, .int .u64 0, .slice none 0 0, .int .u64 0, .int .u64 0, .slice none 0 0] hOz (by rw [infoR28]; rfl) rfl za_one ?_) | fail)
        refine bodyPost_ret (v := .tuple #[.agg #[.int .u64 0, .int .u64 0, .int .u64 0, .slice none 0 0, .int .u8 0, .int .u8 0, .int .u64 0, .int .u64 0, .int .u64 0, .int .u64 0, .bool false, .int .u64 0, .slice none 0 0, .int .u64 0, .int .u64 0, .slice none 0 0], .slice none 0 0, .int .i64 4]) (by exact results_row3 Tryd.results18 _ _ rfl (Blk.row hOz #[.int .u64 0, .int .u64 0, .int .u64 0, .slice none 0 0, .int .u8 0, .int .u8 0, .int .u64 0, .int .u64 0, .int .u64 0, .int .u64 0, .bool false, .int .u64 0, .slice none 0 0, .int .u64 0, .int .u64 0, .slice none 0 0]) Tryd.underlying28 rfl (by rw [infoR28]; rfl)) rfl ?_
        have hBf := below_row hBz (Nat.le_refl w.heap.size) #[.int .u64 0, .int .u64 0, .int .u64 0, .slice none 0 0, .int .u8 0, .int .u8 0, .int .u64 0, .int .u64 0, .int .u64 0, .int .u64 0, .bool false, .int .u64 0, .slice none 0 0, .int .u64 0, .int .u64 0, .slice none 0 0]
        rw [HMORE.out _ _ HPS.out (.inl (by simp))]
        exact ⟨⟨.slice none 0 0, .slice none 0 0, .slice none 0 0, .slice none 0 0, rfl, Rd.nil _ _, Rd.nil _ _, Rd.nil _ _, Rd.nil _ _⟩, hBf⟩

end Go.Proofs.YtjijmbpgfabgcaaDoor
