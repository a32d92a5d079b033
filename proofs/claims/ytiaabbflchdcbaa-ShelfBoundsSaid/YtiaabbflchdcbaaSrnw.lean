/-
  ShelfRuns: the walk. No condition.
-/
import Derived.Test.YtiaabbflchdcbaaShrun
import Derived.Test.YtiaabbflchdcbaaShsame
import Derived.Test.YtiaabbflchdcbaaShfew
namespace Go.Proofs.Ytiaabbflchdcbaa
open Go.RowKit
set_option linter.unusedVariables false
set_option linter.unusedSimpArgs false

theorem few_d (G O pr : Int) (gr : Bool) (V : Value) (l d : List Int) (hd : d = l.take 2100) (w : World) (hv : Rd w .u8 V l) :
    Calls Try.prog 11 #[.agg #[.int .u64 G, .int .u64 O, .int .u8 pr, .bool gr, V]] w fun e w' => ∃ A c, e = .returned (.agg #[.int .u64 G, .int .u64 O, .int .u8 pr, .bool gr, .slice A d.length c]) ∧ w'.ownsRow w.heap.size 5 1 (.slice A d.length c) d.length (d.map (Value.int .u8)) ∧ Below w.heap.size w w' := by
  subst hd
  refine (few_any G O pr gr V l w hv).mono ?_
  rintro e w' ⟨V', rfl, ho, hb⟩
  obtain ⟨A, c, rfl, _⟩ := sl_of_own ho
  exact ⟨A, c, rfl, ho, hb⟩
/-- The 37 has nine cells. -/
theorem infoOP : (Try.prog.info? 37).map (·.size) = some 9 := by kernel_rfl
theorem take_ok {l d : List Int} (hk : BytesOk l) (hd : d = l.take 2100) : BytesOk d ∧ d.length ≤ 2100 := by
  subst hd
  exact ⟨fun x hx => hk x (List.mem_of_mem_take hx), by simp; omega⟩
theorem HS.blk {w : World} {B sb lb zb tb k : Nat} {room : Int} {s : PS} {t : TypeId} {cs : Array Value} (h : HS w B sb lb zb tb room s) (hg : Blk w k t cs) (i : Nat) (u : Value) (h1 : t ≠ 81) (h2 : t ≠ 84) (h3 : t ≠ 5) : HS (w.setCell ⟨k, i, none⟩ u) B sb lb zb tb room s := by
  obtain ⟨lv, E, hE, hS⟩ := h
  exact ⟨lv, E, hE, hS.by_ hg (grown_set (grown_refl w _) i u) h1 h2 h3⟩
theorem RdF.blk {w : World} {k : Nat} {v : Value} {l : List Int} {t : TypeId} {cs : Array Value} (h : RdF w v l) (hg : Blk w k t cs) (i : Nat) (u : Value) (h3 : t ≠ 5) : RdF (w.setCell ⟨k, i, none⟩ u) v l :=
  h.keep (by simp) (fun b cs' fr hb => (Below.heap_setCell w ⟨k, i, none⟩ u b (fun e => by
    simp only at e
    subst e
    unfold Blk at hg
    rw [hg] at hb
    injection hb with e2
    injection e2 with e3 e4
    exact h3 e4)).trans hb)
theorem same_one (A A' : Option Addr) (c c' : Nat) (x : Ob5) (w : World) (ha : ORd w A [x]) (hb : ORd w A' [x]) :
    Calls Try.prog 14 #[.slice A 1 c, .slice A' 1 c'] w fun e w' => e = .returned (.bool true) ∧ ∃ n, w.drewN n = w' := same_obs A A' c c' [x] w ha hb (by simp)
theorem all_step {s : PS} {g a : Int} {i : Nat} : decide (∀ j < i + 1, (pget s [97] g (a + (j : Nat))).isSome = true) = (decide (∀ j < i, (pget s [97] g (a + (j : Nat))).isSome = true) && (pget s [97] g (a + (i : Nat))).isSome) := by
  rw [Bool.eq_iff_iff]
  simp only [Bool.and_eq_true, decide_eq_true_eq]
  constructor
  · intro h
    exact ⟨fun j hj => h j (by omega), h i (by omega)⟩
  · rintro ⟨h1, h2⟩ j hj
    by_cases e : j = i
    · rw [e]; exact h2
    · exact h1 j (by omega)
theorem get_is (B sb lb zb tb : Nat) (v : Value) (room g n : Int) (l : List Int) (s : PS) (w : World) (hH : HS w B sb lb zb tb room s) (hv : Rd w .u8 v l) (hk : BytesOk l) (hll : l.length ≤ 1000000) (hg : U64 g) (hn : U64 n) (hok : s.Ok room) (hroom : room ≤ 1048576) (ok : Bool) (hk2 : ok = (pget s l g n).isSome) :
    Calls Try.prog 13 #[.pointer (some ⟨sb, 0, none⟩), v, .agg #[.int .u64 g, .int .u64 n]] w fun e w' => ∃ (g' n' p' : Int) (A : Option Addr) (a c : Nat), e = .returned (.tuple #[.agg #[.int .u64 g', .int .u64 n', .int .u8 p', .bool false, .slice A a c], .bool ok]) ∧ HS w' B sb lb zb tb room s ∧ Below w.heap.size w w' := by
  obtain ⟨⟨g', n', p', d', ok'⟩, hgv⟩ : ∃ x, x = getV (pget s l g n) := ⟨_, rfl⟩
  have e1 : ok' = ok := by
    have : (getV (pget s l g n)).2.2.2.2 = (pget s l g n).isSome := by cases pget s l g n <;> rfl
    rw [← hgv] at this
    rw [hk2]; exact this
  subst e1
  refine (get_any B sb lb zb tb v room g n l s w hH hv hk hll hg hn hok hroom g' n' p' d' ok' hgv.symm).mono ?_
  rintro e w' ⟨dv, rfl, ho, h3, h4⟩
  obtain ⟨A, c, rfl, _⟩ := sl_of_own ho
  exact ⟨g', n', p', A, _, c, rfl, h3, h4⟩
theorem ORd.below {w w' : World} {A : Option Addr} {X : List Ob5} (h : ORd w A X) (hb : Below w.heap.size w w') : ORd w' A X := fun k hk => by
  obtain ⟨b, off, V, e, hl, hc, hV⟩ := h k hk
  exact ⟨b, off, V, e, Nat.lt_of_lt_of_le hl hb.size, fun j hj => (hb.cell (p := ⟨b, _, none⟩) hl).trans (hc j hj), hV.below hb⟩
theorem ORd.of_blk {w : World} {b : Nat} {g n p : Int} {gr : Bool} {V : Value} {l : List Int} (h : Blk w b 35 #[.int .u64 g, .int .u64 n, .int .u8 p, .bool gr, V]) (hV : Rd w .u8 V l) : ORd w (some ⟨b, 0, none⟩) [(g, n, p, gr, l)] := fun k hk => by
  obtain rfl : k = 0 := by simp at hk; omega
  refine ⟨b, 0, V, rfl, h.lt, fun j hj => ?_, hV⟩
  rw [show 0 + 0 * 5 + j = j by omega, h.cell j]
  match j, hj with
  | 0, _ => rfl
  | 1, _ => rfl
  | 2, _ => rfl
  | 3, _ => rfl
  | 4, _ => rfl
theorem flat5_at : ∀ {L : List (En × Value)} {i j : Nat} (hi : i < L.length), j < 5 → (flat5 L)[i * 5 + j]? = (oc5 L[i])[j]?
  | [], i, j, hi, _ => by simp at hi
  | x :: L, 0, j, _, hj => by
    show (oc5 x ++ flat5 L)[0 * 5 + j]? = (oc5 x)[j]?
    rw [Nat.zero_mul, Nat.zero_add, List.getElem?_append_left (by show j < 5; exact hj)]
  | x :: L, i + 1, j, hi, hj => by
    show (oc5 x ++ flat5 L)[(i + 1) * 5 + j]? = _
    rw [List.getElem?_append_right (by show 5 ≤ _; omega), show (i + 1) * 5 + j - (oc5 x).length = i * 5 + j from by show (i + 1) * 5 + j - 5 = _; omega]
    exact flat5_at (L := L) (by simpa using hi) hj
theorem OW.ord {w : World} {B rb n rc i : Nat} {LV : List (En × Value)} {y : En} {dv : Value} (h : OW w B (.slice (some ⟨rb, 0, none⟩) n rc) LV) (hi : i < LV.length) (hy : LV[i] = (y, dv)) : ORd w (some ⟨rb, i * 5, none⟩) [(y.g, y.n, y.p, false, y.d)] := fun k hk => by
  obtain rfl : k = 0 := by simp at hk; omega
  have hm : (y, dv) ∈ LV := by rw [← hy]; exact List.getElem_mem hi
  rcases h.row.2 with ⟨e, _⟩ | ⟨g', cap, cur, e, _, hb, hn, hc, hs, htk⟩
  · cases e
  · simp only [Value.slice.injEq, Option.some.injEq, Addr.mk.injEq, and_true] at e
    obtain ⟨rfl, _, _⟩ := e
    refine ⟨rb, i * 5, dv, rfl, (Array.getElem?_eq_some_iff.1 hb).1, fun j hj => ?_, (h.dat _ hm).1⟩
    have h1 := flat5_at hi hj
    rw [← htk, List.getElem?_take, if_pos (by omega), hy] at h1
    rw [show i * 5 + 0 * 5 + j = i * 5 + j by omega, cell_of_row w rb _ cur 35 (0, 0) hb, ← Array.getElem?_toList]
    exact h1
set_option maxHeartbeats 4000000 in
set_option maxRecDepth 100000 in
theorem runs_walk (A : Option Addr) (N cap : Nat) (g0 f0 n0 : Int) (w : World) (hnc : N ≤ cap) (hcm : cap ≤ maxLen) (hO : Ops w A N) (hg0 : 0 ≤ g0 ∧ g0 ≤ 18446744073709551615) (hf0 : 0 ≤ f0 ∧ f0 ≤ 255) (hn0 : 0 ≤ n0 ∧ n0 ≤ 255) :
    Calls Try.prog 5 #[.slice A N cap, .int .u64 g0, .int .u8 f0, .int .u8 n0] w fun e w' => e = .returned (.bool true) ∧ Below w.heap.size w w' := by
  have hNm : N ≤ 9223372036854775807 := by unfold maxLen at hcm; omega
  have HO := Lib.hid hO
  clear hO
  have haw := awake_any w
  have kc := fun (w : World) (C : Array Value) (n c : Nat) => Lib.run_convert_bytes_const (P := Try.prog) w 30 5 C n c Try.underlying30 Try.underlying5
  go_enter Try.func5, Try.ntmps5
  go_upto_region 3 with (first | (go_at_call 8; (with_reducible refine haw.mono ?_); rintro e w1 ⟨rfl, hb1⟩) | fail)
  clear haw
  have hnew := new_ok 65536 w1 (by omega) (by omega)
  go_upto_region 4 with (first | (go_at_call 9; (with_reducible refine hnew.mono ?_); rintro e w2 ⟨sb, lb, zb, tb, rfl, hH, hb2⟩) | fail)
  clear hnew
  obtain ⟨B, hB⟩ : ∃ B, B = w1.heap.size := ⟨_, rfl⟩
  rw [← hB] at hH hb2
  have hwB : w.heap.size ≤ B := by rw [hB]; exact hb1.size
  have hb := hb1.trans (hb2.mono hwB)
  clear hb1 hb2 hB
  have hv1 := lit_rdf 97 w2
  have hba : Below w2.heap.size w2 (w2.alloc (.cells #[.int .u8 97] 5 (1, 2))) := (Below.refl _ _).alloc (Nat.le_refl _) _
  go_upto_region 5 with fail
  refine wp_world (fun wz => HS wz B sb lb zb tb 65536 PS.empty ∧ RdF wz (.slice (some ⟨w2.heap.size, 0, none⟩) 1 1) [97] ∧ Below w.heap.size w wz) ⟨hH.kept hba, hv1, hb.trans (hba.mono hb.size)⟩ ?_
  obtain ⟨nb, hnb⟩ : ∃ nb, nb = w2.heap.size := ⟨_, rfl⟩
  rw [← hnb]
  clear hH hb hv1 hba hnb kc
  rintro w3 ⟨hH, hv, hb⟩
  have hok0 : PS.empty.Ok 65536 := PS.empty_ok (by omega)
  go_upto_block 0 with fail
  go_cut [] (fun wc => ∃ s, HS wc B sb lb zb tb 65536 s ∧ s.Ok 65536 ∧ RdF wc (.slice (some ⟨nb, 0, none⟩) 1 1) [97] ∧ Below w.heap.size w wc)
  case first =>
    go_wp2_with fail
    go_loopg [33] N (fun gk s33 wr => ∃ (i : Nat) (s : PS), gk = N - i ∧ i ≤ N ∧ s33 = .int .i64 i ∧ HS wr B sb lb zb tb 65536 s ∧ s.Ok 65536 ∧ RdF wr (.slice (some ⟨nb, 0, none⟩) 1 1) [97] ∧ Below w.heap.size w wr)
    case atStart => exact ⟨0, _, rfl, Nat.zero_le _, rfl, hH, hok0, hv, hb⟩
    case round =>
      clear hH hok0 hv hb
      obtain ⟨i, s, hgk, hiN, rfl, hH, hok, hv, hb⟩ := hrel
      by_cases hlt : i < N
      · obtain ⟨b, off, o, g, n, p, gr, tV, V, tl, l, tg, tn, rfl, hbl, hc, _, ⟨hg, hn, hp⟩, hV, hK, hT, hTK, _, _⟩ := HO.out i hlt
        have hrg : wr.rangeAt b (off + i * 9) [.int .u8 o, tV, .int .u64 g, .int .u64 n, .int .u8 p, .bool gr, V, .int .u64 tg, .int .u64 tn] := fun j v hv => by
          have hj : j < 9 := (List.getElem?_eq_some_iff.1 hv).1
          rw [Nat.add_assoc]
          exact ((hb.cell (p := ⟨b, off + (i * 9 + j), none⟩) hbl).trans (hc j hj)).trans hv
        have HRG := Lib.hid hrg
        have hV1 : Rd wr .u8 V l := hV.below hb
        obtain ⟨VA, Vc, rfl⟩ := hV.form
        obtain ⟨TA, Tc, rfl⟩ := hT.form
        clear hrg hc hV hT hbl
        have hone : (#[.int .u8 o, (.slice TA tl.length Tc), .int .u64 g, .int .u64 n, .int .u8 p, .bool gr, (.slice VA l.length Vc), .int .u64 tg, .int .u64 tn] : Array Value).all (·.oneCell') = true := by simp [Value.oneCell']
        have hba : Below wr.heap.size wr (wr.alloc (.cells #[.int .u8 o, (.slice TA tl.length Tc), .int .u64 g, .int .u64 n, .int .u8 p, .bool gr, (.slice VA l.length Vc), .int .u64 tg, .int .u64 tn] 37)) := (Below.refl _ _).alloc (Nat.le_refl _) _
        go_upto_region 8 with (first | (refine wpList_load_mid rfl 37 (.tmp 36) rfl b (off + i * 9) rfl [.int .u8 o, (.slice TA tl.length Tc), .int .u64 g, .int .u64 n, .int .u8 p, .bool gr, (.slice VA l.length Vc), .int .u64 tg, .int .u64 tn] _ HRG.out Try.underlying37 rfl (by rw [infoOP]; rfl) ?_) | (refine wpList_store_new rfl 37 (.tmp 13) (.tmp 37) rfl 37 _ #[.int .u8 o, (.slice TA tl.length Tc), .int .u64 g, .int .u64 n, .int .u8 p, .bool gr, (.slice VA l.length Vc), .int .u64 tg, .int .u64 tn] rfl rfl (by rw [infoOP]; rfl) rfl hone ?_) | fail)
        refine wp_world (fun wz => HS wz B sb lb zb tb 65536 s ∧ RdF wz (.slice (some ⟨nb, 0, none⟩) 1 1) [97] ∧ Blk wz wr.heap.size 37 #[.int .u8 o, (.slice TA tl.length Tc), .int .u64 g, .int .u64 n, .int .u8 p, .bool gr, (.slice VA l.length Vc), .int .u64 tg, .int .u64 tn] ∧ Rd wz .u8 (.slice VA l.length Vc) l ∧ Below w.heap.size w wz) ⟨hH.kept hba, hv.below hba, Blk.new wr 37 #[.int .u8 o, (.slice TA tl.length Tc), .int .u64 g, .int .u64 n, .int .u8 p, .bool gr, (.slice VA l.length Vc), .int .u64 tg, .int .u64 tn], hV1.below hba, hb.trans (hba.mono hb.size)⟩ ?_
        obtain ⟨ob, hob⟩ : ∃ ob, ob = wr.heap.size := ⟨_, rfl⟩
        rw [← hob]
        clear hH hv hV1 hb hba hob hone HRG
        rintro w4 ⟨hH, hv, hO, hV1, hb⟩
        obtain ⟨d, hd⟩ : ∃ d, d = l.take 2100 := ⟨_, rfl⟩
        have hfew := few_d g n p gr (.slice VA l.length Vc) l d hd w4 hV1
        obtain ⟨hdk, hdl⟩ := take_ok hK hd
        clear hd
        have c2 : World.cell? w4 ⟨ob, 2, none⟩ = some (.int .u64 g) := hO.cell 2
        have c3 : World.cell? w4 ⟨ob, 3, none⟩ = some (.int .u64 n) := hO.cell 3
        have c4 : World.cell? w4 ⟨ob, 4, none⟩ = some (.int .u8 p) := hO.cell 4
        have c5 : World.cell? w4 ⟨ob, 5, none⟩ = some (.bool gr) := hO.cell 5
        have c6 : World.cell? w4 ⟨ob, 6, none⟩ = some (.slice VA l.length Vc) := hO.cell 6
        have HDK := Lib.hid hdk
        clear hdk
        go_upto_region 9 with (first | (go_at_call 11; (with_reducible refine hfew.mono ?_); clear hfew; rintro e w5 ⟨dA, dc, rfl, ho5, hb5⟩) | fail)
        have hba : Below w5.heap.size w5 (w5.alloc (.cells #[.int .u64 g, .int .u64 n, .int .u8 p, .bool gr, .slice dA d.length dc] 35)) := (Below.refl _ _).alloc (Nat.le_refl _) _
        have hb05 := hb.trans (hb5.mono hb.size)
        refine wp_world (fun wz => HS wz B sb lb zb tb 65536 s ∧ RdF wz (.slice (some ⟨nb, 0, none⟩) 1 1) [97] ∧ Blk wz w5.heap.size 35 #[.int .u64 g, .int .u64 n, .int .u8 p, .bool gr, .slice dA d.length dc] ∧ RdT wz (.slice dA d.length dc) d ∧ w.heap.size ≤ w5.heap.size ∧ Below w.heap.size w wz) ⟨(hH.kept hb5).kept hba, (hv.below hb5).below hba, Blk.new w5 35 #[.int .u64 g, .int .u64 n, .int .u8 p, .bool gr, .slice dA d.length dc], (rdt_of_own ho5).below hba, hb05.size, hb05.trans (hba.mono hb05.size)⟩ ?_
        obtain ⟨ob2, hob2⟩ : ∃ ob2, ob2 = w5.heap.size := ⟨_, rfl⟩
        rw [← hob2]
        clear hH hv hO hV1 hb hba hob2 c2 c3 c4 c5 c6 ho5 hb5 hb05
        rintro w6 ⟨hH, hv, hO, hD, hwo, hb⟩
        by_cases h40 : i < 40
        · have hd40 : decide ((i : Int) < 40) = true := decide_eq_true (by omega)
          have e0 : World.cell? w6 ⟨ob2, 0, none⟩ = some (.int .u64 g) := hO.cell 0
          have e1 : World.cell? w6 ⟨ob2, 1, none⟩ = some (.int .u64 n) := hO.cell 1
          have f0 := hO.frozen 0
          have f1 := hO.frozen 1
          have hU : 0 ≤ g ∧ 0 ≤ n := ⟨hg.1, hn.1⟩
          go_upto_region 12 with fail
          have hO1 := hO.set_ 0 (.int .u64 (g % 4))
          have hH1 := hH.blk hO 0 (.int .u64 (g % 4)) (by decide) (by decide) (by decide)
          refine wp_world (fun wz => HS wz B sb lb zb tb 65536 s ∧ RdF wz (.slice (some ⟨nb, 0, none⟩) 1 1) [97] ∧ Blk wz ob2 35 #[.int .u64 (g % 4), .int .u64 (n % 12), .int .u8 p, .bool gr, .slice dA d.length dc] ∧ RdT wz (.slice dA d.length dc) d ∧ Below w.heap.size w wz) ⟨hH1.blk hO1 1 (.int .u64 (n % 12)) (by decide) (by decide) (by decide), (hv.blk hO 0 _ (by decide)).blk hO1 1 _ (by decide), by simpa using hO1.set_ 1 (.int .u64 (n % 12)), rdt_set (rdt_set hD hO (by decide) 0 _) hO1 (by decide) 1 _, (hb.setCell (p := ⟨ob2, 0, none⟩) hwo _).setCell (p := ⟨ob2, 1, none⟩) hwo _⟩ ?_
          clear hH hv hO hD hb e0 e1 f0 f1 hO1 hH1
          rintro w7 ⟨hH, hv, hO, hD, hb⟩
          have e0 : World.cell? w7 ⟨ob2, 0, none⟩ = some (.int .u64 (g % 4)) := hO.cell 0
          have e1 : World.cell? w7 ⟨ob2, 1, none⟩ = some (.int .u64 (n % 12)) := hO.cell 1
          have e2 : World.cell? w7 ⟨ob2, 2, none⟩ = some (.int .u8 p) := hO.cell 2
          have e3 : World.cell? w7 ⟨ob2, 3, none⟩ = some (.bool gr) := hO.cell 3
          have e4 : World.cell? w7 ⟨ob2, 4, none⟩ = some (.slice dA d.length dc) := hO.cell 4
          have hput := put_any B sb lb zb tb (.slice (some ⟨nb, 0, none⟩) 1 1) 65536 (g % 4) (n % 12) p gr dA dc [97] d s w7 hH hok (by omega) hv.1 aw_bytes (by simp) hD HDK.out (by omega) ⟨by omega, by omega⟩ ⟨by omega, by omega⟩ hp
          have hok' := pput_okP (l := [97]) (g := g % 4) (n := n % 12) (p := p) (d := d) hok
          obtain ⟨pr, hpr⟩ : ∃ pr, pr = pput 65536 s [97] (g % 4) (n % 12) p d := ⟨_, rfl⟩
          rw [← hpr] at hput hok'
          clear hpr
          go_wp2_with (first | (go_at_call 12; (with_reducible refine hput.mono ?_); clear hput; rintro e w8 ⟨rfl, hH8, hx8, hb8⟩) | fail)
          go_roundg (N - (i + 1))
          case measure => omega
          case rel => exact ⟨i + 1, pr.2, rfl, by omega, by go_num, hH8, hok', hv.kx hH hx8, hb.trans (hb8.mono hwB)⟩
        · have hd40 : decide ((i : Int) < 40) = false := decide_eq_false (by omega)
          go_wp2_with fail
          go_roundg (N - (i + 1))
          case measure => omega
          case rel => exact ⟨i + 1, s, rfl, by omega, by go_num, hH, hok, hv, hb⟩
      · go_wp2_with fail
        go_meet
        exact ⟨s, hH, hok, hv, hb⟩
  clear hH hok0 hv hb
  obtain ⟨w4, hwe⟩ : ∃ x, x = wc := ⟨_, rfl⟩
  subst hwe
  obtain ⟨s, hH, hok, hv, hb⟩ := hcut
  obtain ⟨g, hgd⟩ : ∃ g, g0 % 4 = g := ⟨_, rfl⟩
  obtain ⟨a, had⟩ : ∃ a, f0 % 12 = a := ⟨_, rfl⟩
  obtain ⟨m, hmd⟩ : ∃ m : Nat, n0 % 6 = m := ⟨(n0 % 6).toNat, by omega⟩
  have hgb : 0 ≤ g ∧ g ≤ 3 := by omega
  have hab : 0 ≤ a ∧ a ≤ 11 := by omega
  have hmb : m ≤ 5 := by omega
  have hw1 : IntKind.u64.wrap (a + (m : Int)) = a + m := by rw [IntKind.wrap_u64]; omega
  go_upto_region 16 with fail
  have hba : Below w4.heap.size w4 ((w4.alloc (.cells #[.int .u64 g, .int .u64 a] 33)).alloc (.cells #[.int .u64 g, .int .u64 (a + m)] 33)) := ((Below.refl w4.heap.size w4).alloc (Nat.le_refl _) _).alloc (by simp) _
  have hP0 := (Blk.new w4 33 #[.int .u64 g, .int .u64 a]).alloc (.cells #[.int .u64 g, .int .u64 (a + m)] 33)
  have hQ0 : Blk ((w4.alloc (.cells #[.int .u64 g, .int .u64 a] 33)).alloc (.cells #[.int .u64 g, .int .u64 (a + m)] 33)) (w4.heap.size + 1) 33 #[.int .u64 g, .int .u64 (a + m)] := blk_new_at (by simp)
  refine wp_world (fun wz => HS wz B sb lb zb tb 65536 s ∧ RdF wz (.slice (some ⟨nb, 0, none⟩) 1 1) [97] ∧ Blk wz w4.heap.size 33 #[.int .u64 g, .int .u64 a] ∧ Blk wz (w4.heap.size + 1) 33 #[.int .u64 g, .int .u64 (a + m)] ∧ Below w.heap.size w wz) ⟨hH.kept hba, hv.below hba, hP0, hQ0, hb.trans (hba.mono hb.size)⟩ ?_
  obtain ⟨pa, hpa⟩ : ∃ pa, pa = w4.heap.size := ⟨_, rfl⟩
  rw [← hpa]
  clear hH hv hb hba hP0 hQ0 hpa
  rintro w5 ⟨hH, hv, hP, hQ, hb⟩
  have q0 : World.cell? w5 ⟨pa, 0, none⟩ = some (.int .u64 g) := hP.cell 0
  have q1 : World.cell? w5 ⟨pa, 1, none⟩ = some (.int .u64 a) := hP.cell 1
  have r0 : World.cell? w5 ⟨pa + 1, 0, none⟩ = some (.int .u64 g) := hQ.cell 0
  have r1 : World.cell? w5 ⟨pa + 1, 1, none⟩ = some (.int .u64 (a + m)) := hQ.cell 1
  have hrun := run_any B sb lb zb tb (.slice (some ⟨nb, 0, none⟩) 1 1) 65536 g a g (a + m) [97] s w5 hH hv aw_bytes (by simp) ⟨by omega, by omega⟩ ⟨by omega, by omega⟩ ⟨by omega, by omega⟩ ⟨by omega, by omega⟩ hok (by omega)
  cases hpr : prun s [97] g a g (a + m) with
  | none =>
    rw [hpr] at hrun
    have hrun' := hrun.mono (R' := fun e w' => e = .returned (.tuple #[.slice none 0 0, .bool false]) ∧ HS w' B sb lb zb tb 65536 s ∧ Below w5.heap.size w5 w') (fun e w' h => ⟨h.2.2, h.1, h.2.1⟩)
    clear hrun
    have hnall : ¬ ∀ i < m + 1, (pget s [97] g (a + (i : Nat))).isSome = true := fun h => by
      obtain ⟨L, hL⟩ := prun_all h
      rw [hpr] at hL
      cases hL
    have HNA := Lib.hid hnall
    clear hnall hpr
    go_upto_block 2 with (first | (go_at_call 17; (with_reducible refine hrun'.mono ?_); clear hrun'; rintro e w6 ⟨rfl, hH6, hb6⟩; have q6 : World.cell? w6 ⟨pa, 1, none⟩ = some (.int .u64 a) := (hP.same hb6).cell 1) | fail)
    refine wp_world (fun wz => HS wz B sb lb zb tb 65536 s ∧ RdF wz (.slice (some ⟨nb, 0, none⟩) 1 1) [97] ∧ Blk wz pa 33 #[.int .u64 g, .int .u64 a] ∧ Blk wz (pa + 1) 33 #[.int .u64 g, .int .u64 (a + m)] ∧ Below w.heap.size w wz) ⟨hH6, hv.below hb6, hP.same hb6, hQ.same hb6, hb.trans (hb6.mono hb.size)⟩ ?_
    clear hH hv hP hQ hb q0 q1 r0 r1 hH6 hb6 q6
    rintro w7 ⟨hH, hv, hP, hQ, hb⟩
    go_wp2_with fail
    go_loopg [19, 20] (m + 1) (fun gk s19 s20 wz => ∃ (i : Nat) (bb : Bool), gk = m + 1 - i ∧ i ≤ m + 1 ∧ s20 = .int .u64 (a + i) ∧ s19 = .bool bb ∧ Hid (bb = decide (∀ j < i, (pget s [97] g (a + (j : Nat))).isSome = true)) ∧ HS wz B sb lb zb tb 65536 s ∧ RdF wz (.slice (some ⟨nb, 0, none⟩) 1 1) [97] ∧ Blk wz pa 33 #[.int .u64 g, .int .u64 a] ∧ Blk wz (pa + 1) 33 #[.int .u64 g, .int .u64 (a + m)] ∧ Below w.heap.size w wz)
    case atStart => exact ⟨0, true, rfl, Nat.zero_le _, by simp, rfl, Lib.hid (by simp), hH, hv, hP, hQ, hb⟩
    case round =>
      clear hH hv hP hQ hb
      obtain ⟨i, bb, hgk, him, rfl, rfl, hbb, hH, hv, hP, hQ, hb⟩ := hrel
      have q0 : World.cell? wr ⟨pa, 0, none⟩ = some (.int .u64 g) := hP.cell 0
      have r1 : World.cell? wr ⟨pa + 1, 1, none⟩ = some (.int .u64 (a + m)) := hQ.cell 1
      by_cases hlt : i ≤ m
      · have hle : decide (a + (i : Int) ≤ a + (m : Int)) = true := decide_eq_true (by omega)
        have hw2 : IntKind.u64.wrap (a + (i : Int) + 1) = a + (i : Int) + 1 := by rw [IntKind.wrap_u64]; omega
        obtain ⟨ok, hokk⟩ : ∃ ok, ok = (pget s [97] g (a + (i : Nat))).isSome := ⟨_, rfl⟩
        have hget := get_is B sb lb zb tb (.slice (some ⟨nb, 0, none⟩) 1 1) 65536 g (a + i) [97] s wr hH hv.1 aw_bytes (by simp) ⟨by omega, by omega⟩ ⟨by omega, by omega⟩ hok (by omega) ok hokk
        have HOK := Lib.hid hokk
        clear hokk
        cases bb <;> cases ok
        · go_upto_region 25 with (first | (go_at_call 13; (with_reducible refine hget.mono ?_); clear hget; rintro e w8 ⟨g', n', p', gA, ga, gc, rfl, hH8, hb8⟩) | fail)
          refine wp_world (fun wz => HS wz B sb lb zb tb 65536 s ∧ RdF wz (.slice (some ⟨nb, 0, none⟩) 1 1) [97] ∧ Blk wz pa 33 #[.int .u64 g, .int .u64 a] ∧ Blk wz (pa + 1) 33 #[.int .u64 g, .int .u64 (a + m)] ∧ Below w.heap.size w wz) ⟨hH8.kept ((Below.refl _ _).alloc (Nat.le_refl _) _), (hv.below hb8).below ((Below.refl _ _).alloc (Nat.le_refl _) _), (hP.same hb8).alloc _, (hQ.same hb8).alloc _, (hb.trans (hb8.mono hb.size)).alloc (Nat.le_trans hb.size hb8.size) _⟩ ?_
          clear hH hv hP hQ hb hH8 hb8 q0 r1
          rintro w9 ⟨hH, hv, hP, hQ, hb⟩
          refine wp_region_held_drew (S := fun _ => True) (by kernel_rfl) (trivial) (fun _ => ?_)
          refine wpAnyH_take (i := 0) (oi := ({ dst := some 115, op := Op.move (Operand.tmp 18), type := 4, pos := _, after := #[], guard := none } : Oper)) (v := ?_) rfl (by kernel_rfl) (by kernel_rfl) (by kernel_rfl) (fun _ _ _ h => h) (Or.inl ⟨by rfl, ?_⟩) (trivial) ?_
          rotate_left
          · intro w hSw
            try dsimp only at hSw
            go_simp
            try with_reducible rfl
          try simp only [Act.put, List.setIfInBounds_toArray, List.set_cons_zero, List.set_cons_succ]
          refine wpAnyH_take (i := 1) (oi := ({ dst := some 116, op := Op.move (Operand.tmp 115), type := 4, pos := _, after := #[{ on := 0, ground := Ground.data }], guard := none } : Oper)) (v := ?_) rfl (by kernel_rfl) (by kernel_rfl) (by kernel_rfl) (fun _ _ _ h => h) (Or.inl ⟨by rfl, ?_⟩) (trivial) ?_
          rotate_left
          · intro w hSw
            try dsimp only at hSw
            go_simp
            try with_reducible rfl
          try simp only [Act.put, List.setIfInBounds_toArray, List.set_cons_zero, List.set_cons_succ]
          refine wpAnyH_take (i := 2) (oi := ({ dst := some 117, op := Op.move (Operand.tmp 17), type := 44, pos := _, after := #[{ on := 1, ground := Ground.guard }], guard := some (1, true) } : Oper)) (v := undef) rfl (by kernel_rfl) (by kernel_rfl) (by kernel_rfl) (fun _ _ _ h => h) (Or.inr ⟨by rfl, rfl⟩) (trivial) ?_
          try simp only [Act.put, List.setIfInBounds_toArray, List.set_cons_zero, List.set_cons_succ]
          refine wpAnyH_take (i := 3) (oi := ({ dst := some 118, op := Op.move (Operand.tmp 20), type := 31, pos := _, after := #[{ on := 1, ground := Ground.guard }], guard := some (1, true) } : Oper)) (v := undef) rfl (by kernel_rfl) (by kernel_rfl) (by kernel_rfl) (fun _ _ _ h => h) (Or.inr ⟨by rfl, rfl⟩) (trivial) ?_
          try simp only [Act.put, List.setIfInBounds_toArray, List.set_cons_zero, List.set_cons_succ]
          refine wpAnyH_take (i := 4) (oi := ({ dst := some 119, op := Op.fieldAddr 33 (Operand.tmp 15) 1, type := 0, pos := _, after := #[{ on := 1, ground := Ground.guard }], guard := some (1, true) } : Oper)) (v := undef) rfl (by kernel_rfl) (by kernel_rfl) (by kernel_rfl) (fun _ _ _ h => h) (Or.inr ⟨by rfl, rfl⟩) (trivial) ?_
          try simp only [Act.put, List.setIfInBounds_toArray, List.set_cons_zero, List.set_cons_succ]
          refine wpAnyH_take (i := 5) (oi := ({ dst := some 120, op := Op.load 31 (Operand.tmp 119), type := 31, pos := _, after := #[{ on := 4, ground := Ground.data }, { on := 1, ground := Ground.guard }], guard := some (1, true) } : Oper)) (v := undef) rfl (by kernel_rfl) (by kernel_rfl) (by kernel_rfl) (fun _ _ _ h => h) (Or.inr ⟨by rfl, rfl⟩) (trivial) ?_
          try simp only [Act.put, List.setIfInBounds_toArray, List.set_cons_zero, List.set_cons_succ]
          refine wpAnyH_take (i := 6) (oi := ({ dst := some 121, op := Op.binOp BinOp.sub 31 (Operand.tmp 118) (Operand.tmp 120) 31, type := 31, pos := _, after := #[{ on := 3, ground := Ground.data }, { on := 5, ground := Ground.data }, { on := 1, ground := Ground.guard }], guard := some (1, true) } : Oper)) (v := undef) rfl (by kernel_rfl) (by kernel_rfl) (by kernel_rfl) (fun _ _ _ h => h) (Or.inr ⟨by rfl, rfl⟩) (trivial) ?_
          try simp only [Act.put, List.setIfInBounds_toArray, List.set_cons_zero, List.set_cons_succ]
          refine wpAnyH_take (i := 7) (oi := ({ dst := some 122, op := Op.move (Operand.tmp 20), type := 31, pos := _, after := #[{ on := 1, ground := Ground.guard }], guard := some (1, true) } : Oper)) (v := undef) rfl (by kernel_rfl) (by kernel_rfl) (by kernel_rfl) (fun _ _ _ h => h) (Or.inr ⟨by rfl, rfl⟩) (trivial) ?_
          try simp only [Act.put, List.setIfInBounds_toArray, List.set_cons_zero, List.set_cons_succ]
          refine wpAnyH_take (i := 8) (oi := ({ dst := some 123, op := Op.fieldAddr 33 (Operand.tmp 15) 1, type := 0, pos := _, after := #[{ on := 1, ground := Ground.guard }], guard := some (1, true) } : Oper)) (v := undef) rfl (by kernel_rfl) (by kernel_rfl) (by kernel_rfl) (fun _ _ _ h => h) (Or.inr ⟨by rfl, rfl⟩) (trivial) ?_
          try simp only [Act.put, List.setIfInBounds_toArray, List.set_cons_zero, List.set_cons_succ]
          refine wpAnyH_take (i := 9) (oi := ({ dst := some 124, op := Op.load 31 (Operand.tmp 123), type := 31, pos := _, after := #[{ on := 8, ground := Ground.data }, { on := 1, ground := Ground.guard }], guard := some (1, true) } : Oper)) (v := undef) rfl (by kernel_rfl) (by kernel_rfl) (by kernel_rfl) (fun _ _ _ h => h) (Or.inr ⟨by rfl, rfl⟩) (trivial) ?_
          try simp only [Act.put, List.setIfInBounds_toArray, List.set_cons_zero, List.set_cons_succ]
          refine wpAnyH_take (i := 10) (oi := ({ dst := some 125, op := Op.binOp BinOp.sub 31 (Operand.tmp 122) (Operand.tmp 124) 31, type := 31, pos := _, after := #[{ on := 7, ground := Ground.data }, { on := 9, ground := Ground.data }, { on := 1, ground := Ground.guard }], guard := some (1, true) } : Oper)) (v := undef) rfl (by kernel_rfl) (by kernel_rfl) (by kernel_rfl) (fun _ _ _ h => h) (Or.inr ⟨by rfl, rfl⟩) (trivial) ?_
          try simp only [Act.put, List.setIfInBounds_toArray, List.set_cons_zero, List.set_cons_succ]
          refine wpAnyH_take (i := 11) (oi := ({ dst := some 126, op := Op.binOp BinOp.add 31 (Operand.tmp 125) (Operand.const (Value.int IntKind.u64 1)) 31, type := 31, pos := _, after := #[{ on := 10, ground := Ground.data }, { on := 1, ground := Ground.guard }], guard := some (1, true) } : Oper)) (v := undef) rfl (by kernel_rfl) (by kernel_rfl) (by kernel_rfl) (fun _ _ _ h => h) (Or.inr ⟨by rfl, rfl⟩) (trivial) ?_
          try simp only [Act.put, List.setIfInBounds_toArray, List.set_cons_zero, List.set_cons_succ]
          refine wpAnyH_take (i := 12) (oi := ({ dst := some 127, op := Op.slice 44 (Operand.tmp 117) (some (Operand.tmp 121)) (some (Operand.tmp 126)) none, type := 44, pos := _, after := #[{ on := 2, ground := Ground.data }, { on := 6, ground := Ground.data }, { on := 11, ground := Ground.data }, { on := 1, ground := Ground.guard }], guard := some (1, true) } : Oper)) (v := undef) rfl (by kernel_rfl) (by kernel_rfl) (by kernel_rfl) (fun _ _ _ h => h) (Or.inr ⟨by rfl, rfl⟩) (trivial) ?_
          try simp only [Act.put, List.setIfInBounds_toArray, List.set_cons_zero, List.set_cons_succ]
          refine wpAnyH_take (i := 13) (oi := ({ dst := some 128, op := Op.load 35 (Operand.tmp 21), type := 35, pos := _, after := #[{ on := 1, ground := Ground.guard }], guard := some (1, true) } : Oper)) (v := undef) rfl (by kernel_rfl) (by kernel_rfl) (by kernel_rfl) (fun _ _ _ h => h) (Or.inr ⟨by rfl, rfl⟩) (trivial) ?_
          try simp only [Act.put, List.setIfInBounds_toArray, List.set_cons_zero, List.set_cons_succ]
          refine wpAnyH_take (i := 14) (oi := ({ dst := some 129, op := Op.buildSlice 44 1 #[(0, Operand.tmp 128)], type := 44, pos := _, after := #[{ on := 13, ground := Ground.data }, { on := 1, ground := Ground.guard }], guard := some (1, true) } : Oper)) (v := undef) rfl (by kernel_rfl) (by kernel_rfl) (by kernel_rfl) (fun _ _ _ h => h) (Or.inr ⟨by rfl, rfl⟩) (trivial) ?_
          try simp only [Act.put, List.setIfInBounds_toArray, List.set_cons_zero, List.set_cons_succ]
          refine wpAnyH_take (i := 15) (oi := ({ dst := some 130, op := Op.call { callee := Callee.value (Operand.func 14), args := #[Operand.tmp 127, Operand.tmp 129], argTypes := #[44, 44] }, type := 4, pos := _, after := #[{ on := 12, ground := Ground.data }, { on := 14, ground := Ground.data }, { on := 1, ground := Ground.chain }, { on := 1, ground := Ground.guard }], guard := some (1, true) } : Oper)) (v := undef) rfl (by kernel_rfl) (by kernel_rfl) (by kernel_rfl) (fun _ _ _ h => h) (Or.inr ⟨by rfl, rfl⟩) (trivial) ?_
          try simp only [Act.put, List.setIfInBounds_toArray, List.set_cons_zero, List.set_cons_succ]
          refine wpAnyH_take (i := 16) (oi := ({ dst := some 131, op := Op.unOp UnOp.not 4 (Operand.tmp 130), type := 4, pos := _, after := #[{ on := 15, ground := Ground.data }, { on := 1, ground := Ground.guard }], guard := some (1, true) } : Oper)) (v := undef) rfl (by kernel_rfl) (by kernel_rfl) (by kernel_rfl) (fun _ _ _ h => h) (Or.inr ⟨by rfl, rfl⟩) (trivial) ?_
          try simp only [Act.put, List.setIfInBounds_toArray, List.set_cons_zero, List.set_cons_succ]
          refine wpAnyH_take (i := 17) (oi := ({ dst := some 132, op := Op.pick (Operand.tmp 116) (Operand.tmp 131) (Operand.const (Value.bool false)), type := 4, pos := _, after := #[{ on := 1, ground := Ground.data }, { on := 16, ground := Ground.data }], guard := none } : Oper)) (v := ?_) rfl (by kernel_rfl) (by kernel_rfl) (by kernel_rfl) (fun _ _ _ h => h) (Or.inl ⟨by rfl, ?_⟩) (trivial) ?_
          rotate_left
          · intro w hSw
            try dsimp only at hSw
            go_simp
            try with_reducible rfl
          try simp only [Act.put, List.setIfInBounds_toArray, List.set_cons_zero, List.set_cons_succ]
          refine wpAnyH_done (by kernel_rfl) ?_ _
          go_wp2_with fail
          go_roundg (m + 1 - (i + 1))
          case measure => omega
          case rel => exact ⟨i + 1, false, rfl, by omega, by go_num, rfl, Lib.hid (by rw [all_step, ← hbb.out, ← HOK.out]; rfl), hH.kept (below_drewN (Below.refl _ _) 1), hv.below (below_drewN (Below.refl _ _) 1), hP, hQ, below_drewN hb 1⟩
        · go_upto_region 25 with (first | (go_at_call 13; (with_reducible refine hget.mono ?_); clear hget; rintro e w8 ⟨g', n', p', gA, ga, gc, rfl, hH8, hb8⟩) | fail)
          refine wp_world (fun wz => HS wz B sb lb zb tb 65536 s ∧ RdF wz (.slice (some ⟨nb, 0, none⟩) 1 1) [97] ∧ Blk wz pa 33 #[.int .u64 g, .int .u64 a] ∧ Blk wz (pa + 1) 33 #[.int .u64 g, .int .u64 (a + m)] ∧ Below w.heap.size w wz) ⟨hH8.kept ((Below.refl _ _).alloc (Nat.le_refl _) _), (hv.below hb8).below ((Below.refl _ _).alloc (Nat.le_refl _) _), (hP.same hb8).alloc _, (hQ.same hb8).alloc _, (hb.trans (hb8.mono hb.size)).alloc (Nat.le_trans hb.size hb8.size) _⟩ ?_
          clear hH hv hP hQ hb hH8 hb8 q0 r1
          rintro w9 ⟨hH, hv, hP, hQ, hb⟩
          refine wp_region_held_drew (S := fun _ => True) (by kernel_rfl) (trivial) (fun _ => ?_)
          refine wpAnyH_take (i := 0) (oi := ({ dst := some 115, op := Op.move (Operand.tmp 18), type := 4, pos := _, after := #[], guard := none } : Oper)) (v := ?_) rfl (by kernel_rfl) (by kernel_rfl) (by kernel_rfl) (fun _ _ _ h => h) (Or.inl ⟨by rfl, ?_⟩) (trivial) ?_
          rotate_left
          · intro w hSw
            try dsimp only at hSw
            go_simp
            try with_reducible rfl
          try simp only [Act.put, List.setIfInBounds_toArray, List.set_cons_zero, List.set_cons_succ]
          refine wpAnyH_take (i := 1) (oi := ({ dst := some 116, op := Op.move (Operand.tmp 115), type := 4, pos := _, after := #[{ on := 0, ground := Ground.data }], guard := none } : Oper)) (v := ?_) rfl (by kernel_rfl) (by kernel_rfl) (by kernel_rfl) (fun _ _ _ h => h) (Or.inl ⟨by rfl, ?_⟩) (trivial) ?_
          rotate_left
          · intro w hSw
            try dsimp only at hSw
            go_simp
            try with_reducible rfl
          try simp only [Act.put, List.setIfInBounds_toArray, List.set_cons_zero, List.set_cons_succ]
          refine wpAnyH_take (i := 2) (oi := ({ dst := some 117, op := Op.move (Operand.tmp 17), type := 44, pos := _, after := #[{ on := 1, ground := Ground.guard }], guard := some (1, true) } : Oper)) (v := undef) rfl (by kernel_rfl) (by kernel_rfl) (by kernel_rfl) (fun _ _ _ h => h) (Or.inr ⟨by rfl, rfl⟩) (trivial) ?_
          try simp only [Act.put, List.setIfInBounds_toArray, List.set_cons_zero, List.set_cons_succ]
          refine wpAnyH_take (i := 3) (oi := ({ dst := some 118, op := Op.move (Operand.tmp 20), type := 31, pos := _, after := #[{ on := 1, ground := Ground.guard }], guard := some (1, true) } : Oper)) (v := undef) rfl (by kernel_rfl) (by kernel_rfl) (by kernel_rfl) (fun _ _ _ h => h) (Or.inr ⟨by rfl, rfl⟩) (trivial) ?_
          try simp only [Act.put, List.setIfInBounds_toArray, List.set_cons_zero, List.set_cons_succ]
          refine wpAnyH_take (i := 4) (oi := ({ dst := some 119, op := Op.fieldAddr 33 (Operand.tmp 15) 1, type := 0, pos := _, after := #[{ on := 1, ground := Ground.guard }], guard := some (1, true) } : Oper)) (v := undef) rfl (by kernel_rfl) (by kernel_rfl) (by kernel_rfl) (fun _ _ _ h => h) (Or.inr ⟨by rfl, rfl⟩) (trivial) ?_
          try simp only [Act.put, List.setIfInBounds_toArray, List.set_cons_zero, List.set_cons_succ]
          refine wpAnyH_take (i := 5) (oi := ({ dst := some 120, op := Op.load 31 (Operand.tmp 119), type := 31, pos := _, after := #[{ on := 4, ground := Ground.data }, { on := 1, ground := Ground.guard }], guard := some (1, true) } : Oper)) (v := undef) rfl (by kernel_rfl) (by kernel_rfl) (by kernel_rfl) (fun _ _ _ h => h) (Or.inr ⟨by rfl, rfl⟩) (trivial) ?_
          try simp only [Act.put, List.setIfInBounds_toArray, List.set_cons_zero, List.set_cons_succ]
          refine wpAnyH_take (i := 6) (oi := ({ dst := some 121, op := Op.binOp BinOp.sub 31 (Operand.tmp 118) (Operand.tmp 120) 31, type := 31, pos := _, after := #[{ on := 3, ground := Ground.data }, { on := 5, ground := Ground.data }, { on := 1, ground := Ground.guard }], guard := some (1, true) } : Oper)) (v := undef) rfl (by kernel_rfl) (by kernel_rfl) (by kernel_rfl) (fun _ _ _ h => h) (Or.inr ⟨by rfl, rfl⟩) (trivial) ?_
          try simp only [Act.put, List.setIfInBounds_toArray, List.set_cons_zero, List.set_cons_succ]
          refine wpAnyH_take (i := 7) (oi := ({ dst := some 122, op := Op.move (Operand.tmp 20), type := 31, pos := _, after := #[{ on := 1, ground := Ground.guard }], guard := some (1, true) } : Oper)) (v := undef) rfl (by kernel_rfl) (by kernel_rfl) (by kernel_rfl) (fun _ _ _ h => h) (Or.inr ⟨by rfl, rfl⟩) (trivial) ?_
          try simp only [Act.put, List.setIfInBounds_toArray, List.set_cons_zero, List.set_cons_succ]
          refine wpAnyH_take (i := 8) (oi := ({ dst := some 123, op := Op.fieldAddr 33 (Operand.tmp 15) 1, type := 0, pos := _, after := #[{ on := 1, ground := Ground.guard }], guard := some (1, true) } : Oper)) (v := undef) rfl (by kernel_rfl) (by kernel_rfl) (by kernel_rfl) (fun _ _ _ h => h) (Or.inr ⟨by rfl, rfl⟩) (trivial) ?_
          try simp only [Act.put, List.setIfInBounds_toArray, List.set_cons_zero, List.set_cons_succ]
          refine wpAnyH_take (i := 9) (oi := ({ dst := some 124, op := Op.load 31 (Operand.tmp 123), type := 31, pos := _, after := #[{ on := 8, ground := Ground.data }, { on := 1, ground := Ground.guard }], guard := some (1, true) } : Oper)) (v := undef) rfl (by kernel_rfl) (by kernel_rfl) (by kernel_rfl) (fun _ _ _ h => h) (Or.inr ⟨by rfl, rfl⟩) (trivial) ?_
          try simp only [Act.put, List.setIfInBounds_toArray, List.set_cons_zero, List.set_cons_succ]
          refine wpAnyH_take (i := 10) (oi := ({ dst := some 125, op := Op.binOp BinOp.sub 31 (Operand.tmp 122) (Operand.tmp 124) 31, type := 31, pos := _, after := #[{ on := 7, ground := Ground.data }, { on := 9, ground := Ground.data }, { on := 1, ground := Ground.guard }], guard := some (1, true) } : Oper)) (v := undef) rfl (by kernel_rfl) (by kernel_rfl) (by kernel_rfl) (fun _ _ _ h => h) (Or.inr ⟨by rfl, rfl⟩) (trivial) ?_
          try simp only [Act.put, List.setIfInBounds_toArray, List.set_cons_zero, List.set_cons_succ]
          refine wpAnyH_take (i := 11) (oi := ({ dst := some 126, op := Op.binOp BinOp.add 31 (Operand.tmp 125) (Operand.const (Value.int IntKind.u64 1)) 31, type := 31, pos := _, after := #[{ on := 10, ground := Ground.data }, { on := 1, ground := Ground.guard }], guard := some (1, true) } : Oper)) (v := undef) rfl (by kernel_rfl) (by kernel_rfl) (by kernel_rfl) (fun _ _ _ h => h) (Or.inr ⟨by rfl, rfl⟩) (trivial) ?_
          try simp only [Act.put, List.setIfInBounds_toArray, List.set_cons_zero, List.set_cons_succ]
          refine wpAnyH_take (i := 12) (oi := ({ dst := some 127, op := Op.slice 44 (Operand.tmp 117) (some (Operand.tmp 121)) (some (Operand.tmp 126)) none, type := 44, pos := _, after := #[{ on := 2, ground := Ground.data }, { on := 6, ground := Ground.data }, { on := 11, ground := Ground.data }, { on := 1, ground := Ground.guard }], guard := some (1, true) } : Oper)) (v := undef) rfl (by kernel_rfl) (by kernel_rfl) (by kernel_rfl) (fun _ _ _ h => h) (Or.inr ⟨by rfl, rfl⟩) (trivial) ?_
          try simp only [Act.put, List.setIfInBounds_toArray, List.set_cons_zero, List.set_cons_succ]
          refine wpAnyH_take (i := 13) (oi := ({ dst := some 128, op := Op.load 35 (Operand.tmp 21), type := 35, pos := _, after := #[{ on := 1, ground := Ground.guard }], guard := some (1, true) } : Oper)) (v := undef) rfl (by kernel_rfl) (by kernel_rfl) (by kernel_rfl) (fun _ _ _ h => h) (Or.inr ⟨by rfl, rfl⟩) (trivial) ?_
          try simp only [Act.put, List.setIfInBounds_toArray, List.set_cons_zero, List.set_cons_succ]
          refine wpAnyH_take (i := 14) (oi := ({ dst := some 129, op := Op.buildSlice 44 1 #[(0, Operand.tmp 128)], type := 44, pos := _, after := #[{ on := 13, ground := Ground.data }, { on := 1, ground := Ground.guard }], guard := some (1, true) } : Oper)) (v := undef) rfl (by kernel_rfl) (by kernel_rfl) (by kernel_rfl) (fun _ _ _ h => h) (Or.inr ⟨by rfl, rfl⟩) (trivial) ?_
          try simp only [Act.put, List.setIfInBounds_toArray, List.set_cons_zero, List.set_cons_succ]
          refine wpAnyH_take (i := 15) (oi := ({ dst := some 130, op := Op.call { callee := Callee.value (Operand.func 14), args := #[Operand.tmp 127, Operand.tmp 129], argTypes := #[44, 44] }, type := 4, pos := _, after := #[{ on := 12, ground := Ground.data }, { on := 14, ground := Ground.data }, { on := 1, ground := Ground.chain }, { on := 1, ground := Ground.guard }], guard := some (1, true) } : Oper)) (v := undef) rfl (by kernel_rfl) (by kernel_rfl) (by kernel_rfl) (fun _ _ _ h => h) (Or.inr ⟨by rfl, rfl⟩) (trivial) ?_
          try simp only [Act.put, List.setIfInBounds_toArray, List.set_cons_zero, List.set_cons_succ]
          refine wpAnyH_take (i := 16) (oi := ({ dst := some 131, op := Op.unOp UnOp.not 4 (Operand.tmp 130), type := 4, pos := _, after := #[{ on := 15, ground := Ground.data }, { on := 1, ground := Ground.guard }], guard := some (1, true) } : Oper)) (v := undef) rfl (by kernel_rfl) (by kernel_rfl) (by kernel_rfl) (fun _ _ _ h => h) (Or.inr ⟨by rfl, rfl⟩) (trivial) ?_
          try simp only [Act.put, List.setIfInBounds_toArray, List.set_cons_zero, List.set_cons_succ]
          refine wpAnyH_take (i := 17) (oi := ({ dst := some 132, op := Op.pick (Operand.tmp 116) (Operand.tmp 131) (Operand.const (Value.bool false)), type := 4, pos := _, after := #[{ on := 1, ground := Ground.data }, { on := 16, ground := Ground.data }], guard := none } : Oper)) (v := ?_) rfl (by kernel_rfl) (by kernel_rfl) (by kernel_rfl) (fun _ _ _ h => h) (Or.inl ⟨by rfl, ?_⟩) (trivial) ?_
          rotate_left
          · intro w hSw
            try dsimp only at hSw
            go_simp
            try with_reducible rfl
          try simp only [Act.put, List.setIfInBounds_toArray, List.set_cons_zero, List.set_cons_succ]
          refine wpAnyH_done (by kernel_rfl) ?_ _
          go_wp2_with fail
          go_roundg (m + 1 - (i + 1))
          case measure => omega
          case rel => exact ⟨i + 1, false, rfl, by omega, by go_num, rfl, Lib.hid (by rw [all_step, ← hbb.out, ← HOK.out]; rfl), hH.kept (below_drewN (Below.refl _ _) 1), hv.below (below_drewN (Below.refl _ _) 1), hP, hQ, below_drewN hb 1⟩
        · go_upto_region 25 with (first | (go_at_call 13; (with_reducible refine hget.mono ?_); clear hget; rintro e w8 ⟨g', n', p', gA, ga, gc, rfl, hH8, hb8⟩) | fail)
          refine wp_world (fun wz => HS wz B sb lb zb tb 65536 s ∧ RdF wz (.slice (some ⟨nb, 0, none⟩) 1 1) [97] ∧ Blk wz pa 33 #[.int .u64 g, .int .u64 a] ∧ Blk wz (pa + 1) 33 #[.int .u64 g, .int .u64 (a + m)] ∧ Below w.heap.size w wz) ⟨hH8.kept ((Below.refl _ _).alloc (Nat.le_refl _) _), (hv.below hb8).below ((Below.refl _ _).alloc (Nat.le_refl _) _), (hP.same hb8).alloc _, (hQ.same hb8).alloc _, (hb.trans (hb8.mono hb.size)).alloc (Nat.le_trans hb.size hb8.size) _⟩ ?_
          clear hH hv hP hQ hb hH8 hb8 q0 r1
          rintro w9 ⟨hH, hv, hP, hQ, hb⟩
          refine wp_region_held_drew (S := fun _ => True) (by kernel_rfl) (trivial) (fun _ => ?_)
          refine wpAnyH_take (i := 0) (oi := ({ dst := some 115, op := Op.move (Operand.tmp 18), type := 4, pos := _, after := #[], guard := none } : Oper)) (v := ?_) rfl (by kernel_rfl) (by kernel_rfl) (by kernel_rfl) (fun _ _ _ h => h) (Or.inl ⟨by rfl, ?_⟩) (trivial) ?_
          rotate_left
          · intro w hSw
            try dsimp only at hSw
            go_simp
            try with_reducible rfl
          try simp only [Act.put, List.setIfInBounds_toArray, List.set_cons_zero, List.set_cons_succ]
          refine wpAnyH_take (i := 1) (oi := ({ dst := some 116, op := Op.move (Operand.tmp 115), type := 4, pos := _, after := #[{ on := 0, ground := Ground.data }], guard := none } : Oper)) (v := ?_) rfl (by kernel_rfl) (by kernel_rfl) (by kernel_rfl) (fun _ _ _ h => h) (Or.inl ⟨by rfl, ?_⟩) (trivial) ?_
          rotate_left
          · intro w hSw
            try dsimp only at hSw
            go_simp
            try with_reducible rfl
          try simp only [Act.put, List.setIfInBounds_toArray, List.set_cons_zero, List.set_cons_succ]
          refine wpAnyH_take (i := 2) (oi := ({ dst := some 117, op := Op.move (Operand.tmp 17), type := 44, pos := _, after := #[{ on := 1, ground := Ground.guard }], guard := some (1, true) } : Oper)) (v := undef) rfl (by kernel_rfl) (by kernel_rfl) (by kernel_rfl) (fun _ _ _ h => h) (Or.inr ⟨by rfl, rfl⟩) (trivial) ?_
          try simp only [Act.put, List.setIfInBounds_toArray, List.set_cons_zero, List.set_cons_succ]
          refine wpAnyH_take (i := 3) (oi := ({ dst := some 118, op := Op.move (Operand.tmp 20), type := 31, pos := _, after := #[{ on := 1, ground := Ground.guard }], guard := some (1, true) } : Oper)) (v := undef) rfl (by kernel_rfl) (by kernel_rfl) (by kernel_rfl) (fun _ _ _ h => h) (Or.inr ⟨by rfl, rfl⟩) (trivial) ?_
          try simp only [Act.put, List.setIfInBounds_toArray, List.set_cons_zero, List.set_cons_succ]
          refine wpAnyH_take (i := 4) (oi := ({ dst := some 119, op := Op.fieldAddr 33 (Operand.tmp 15) 1, type := 0, pos := _, after := #[{ on := 1, ground := Ground.guard }], guard := some (1, true) } : Oper)) (v := undef) rfl (by kernel_rfl) (by kernel_rfl) (by kernel_rfl) (fun _ _ _ h => h) (Or.inr ⟨by rfl, rfl⟩) (trivial) ?_
          try simp only [Act.put, List.setIfInBounds_toArray, List.set_cons_zero, List.set_cons_succ]
          refine wpAnyH_take (i := 5) (oi := ({ dst := some 120, op := Op.load 31 (Operand.tmp 119), type := 31, pos := _, after := #[{ on := 4, ground := Ground.data }, { on := 1, ground := Ground.guard }], guard := some (1, true) } : Oper)) (v := undef) rfl (by kernel_rfl) (by kernel_rfl) (by kernel_rfl) (fun _ _ _ h => h) (Or.inr ⟨by rfl, rfl⟩) (trivial) ?_
          try simp only [Act.put, List.setIfInBounds_toArray, List.set_cons_zero, List.set_cons_succ]
          refine wpAnyH_take (i := 6) (oi := ({ dst := some 121, op := Op.binOp BinOp.sub 31 (Operand.tmp 118) (Operand.tmp 120) 31, type := 31, pos := _, after := #[{ on := 3, ground := Ground.data }, { on := 5, ground := Ground.data }, { on := 1, ground := Ground.guard }], guard := some (1, true) } : Oper)) (v := undef) rfl (by kernel_rfl) (by kernel_rfl) (by kernel_rfl) (fun _ _ _ h => h) (Or.inr ⟨by rfl, rfl⟩) (trivial) ?_
          try simp only [Act.put, List.setIfInBounds_toArray, List.set_cons_zero, List.set_cons_succ]
          refine wpAnyH_take (i := 7) (oi := ({ dst := some 122, op := Op.move (Operand.tmp 20), type := 31, pos := _, after := #[{ on := 1, ground := Ground.guard }], guard := some (1, true) } : Oper)) (v := undef) rfl (by kernel_rfl) (by kernel_rfl) (by kernel_rfl) (fun _ _ _ h => h) (Or.inr ⟨by rfl, rfl⟩) (trivial) ?_
          try simp only [Act.put, List.setIfInBounds_toArray, List.set_cons_zero, List.set_cons_succ]
          refine wpAnyH_take (i := 8) (oi := ({ dst := some 123, op := Op.fieldAddr 33 (Operand.tmp 15) 1, type := 0, pos := _, after := #[{ on := 1, ground := Ground.guard }], guard := some (1, true) } : Oper)) (v := undef) rfl (by kernel_rfl) (by kernel_rfl) (by kernel_rfl) (fun _ _ _ h => h) (Or.inr ⟨by rfl, rfl⟩) (trivial) ?_
          try simp only [Act.put, List.setIfInBounds_toArray, List.set_cons_zero, List.set_cons_succ]
          refine wpAnyH_take (i := 9) (oi := ({ dst := some 124, op := Op.load 31 (Operand.tmp 123), type := 31, pos := _, after := #[{ on := 8, ground := Ground.data }, { on := 1, ground := Ground.guard }], guard := some (1, true) } : Oper)) (v := undef) rfl (by kernel_rfl) (by kernel_rfl) (by kernel_rfl) (fun _ _ _ h => h) (Or.inr ⟨by rfl, rfl⟩) (trivial) ?_
          try simp only [Act.put, List.setIfInBounds_toArray, List.set_cons_zero, List.set_cons_succ]
          refine wpAnyH_take (i := 10) (oi := ({ dst := some 125, op := Op.binOp BinOp.sub 31 (Operand.tmp 122) (Operand.tmp 124) 31, type := 31, pos := _, after := #[{ on := 7, ground := Ground.data }, { on := 9, ground := Ground.data }, { on := 1, ground := Ground.guard }], guard := some (1, true) } : Oper)) (v := undef) rfl (by kernel_rfl) (by kernel_rfl) (by kernel_rfl) (fun _ _ _ h => h) (Or.inr ⟨by rfl, rfl⟩) (trivial) ?_
          try simp only [Act.put, List.setIfInBounds_toArray, List.set_cons_zero, List.set_cons_succ]
          refine wpAnyH_take (i := 11) (oi := ({ dst := some 126, op := Op.binOp BinOp.add 31 (Operand.tmp 125) (Operand.const (Value.int IntKind.u64 1)) 31, type := 31, pos := _, after := #[{ on := 10, ground := Ground.data }, { on := 1, ground := Ground.guard }], guard := some (1, true) } : Oper)) (v := undef) rfl (by kernel_rfl) (by kernel_rfl) (by kernel_rfl) (fun _ _ _ h => h) (Or.inr ⟨by rfl, rfl⟩) (trivial) ?_
          try simp only [Act.put, List.setIfInBounds_toArray, List.set_cons_zero, List.set_cons_succ]
          refine wpAnyH_take (i := 12) (oi := ({ dst := some 127, op := Op.slice 44 (Operand.tmp 117) (some (Operand.tmp 121)) (some (Operand.tmp 126)) none, type := 44, pos := _, after := #[{ on := 2, ground := Ground.data }, { on := 6, ground := Ground.data }, { on := 11, ground := Ground.data }, { on := 1, ground := Ground.guard }], guard := some (1, true) } : Oper)) (v := undef) rfl (by kernel_rfl) (by kernel_rfl) (by kernel_rfl) (fun _ _ _ h => h) (Or.inr ⟨by rfl, rfl⟩) (trivial) ?_
          try simp only [Act.put, List.setIfInBounds_toArray, List.set_cons_zero, List.set_cons_succ]
          refine wpAnyH_take (i := 13) (oi := ({ dst := some 128, op := Op.load 35 (Operand.tmp 21), type := 35, pos := _, after := #[{ on := 1, ground := Ground.guard }], guard := some (1, true) } : Oper)) (v := undef) rfl (by kernel_rfl) (by kernel_rfl) (by kernel_rfl) (fun _ _ _ h => h) (Or.inr ⟨by rfl, rfl⟩) (trivial) ?_
          try simp only [Act.put, List.setIfInBounds_toArray, List.set_cons_zero, List.set_cons_succ]
          refine wpAnyH_take (i := 14) (oi := ({ dst := some 129, op := Op.buildSlice 44 1 #[(0, Operand.tmp 128)], type := 44, pos := _, after := #[{ on := 13, ground := Ground.data }, { on := 1, ground := Ground.guard }], guard := some (1, true) } : Oper)) (v := undef) rfl (by kernel_rfl) (by kernel_rfl) (by kernel_rfl) (fun _ _ _ h => h) (Or.inr ⟨by rfl, rfl⟩) (trivial) ?_
          try simp only [Act.put, List.setIfInBounds_toArray, List.set_cons_zero, List.set_cons_succ]
          refine wpAnyH_take (i := 15) (oi := ({ dst := some 130, op := Op.call { callee := Callee.value (Operand.func 14), args := #[Operand.tmp 127, Operand.tmp 129], argTypes := #[44, 44] }, type := 4, pos := _, after := #[{ on := 12, ground := Ground.data }, { on := 14, ground := Ground.data }, { on := 1, ground := Ground.chain }, { on := 1, ground := Ground.guard }], guard := some (1, true) } : Oper)) (v := undef) rfl (by kernel_rfl) (by kernel_rfl) (by kernel_rfl) (fun _ _ _ h => h) (Or.inr ⟨by rfl, rfl⟩) (trivial) ?_
          try simp only [Act.put, List.setIfInBounds_toArray, List.set_cons_zero, List.set_cons_succ]
          refine wpAnyH_take (i := 16) (oi := ({ dst := some 131, op := Op.unOp UnOp.not 4 (Operand.tmp 130), type := 4, pos := _, after := #[{ on := 15, ground := Ground.data }, { on := 1, ground := Ground.guard }], guard := some (1, true) } : Oper)) (v := undef) rfl (by kernel_rfl) (by kernel_rfl) (by kernel_rfl) (fun _ _ _ h => h) (Or.inr ⟨by rfl, rfl⟩) (trivial) ?_
          try simp only [Act.put, List.setIfInBounds_toArray, List.set_cons_zero, List.set_cons_succ]
          refine wpAnyH_take (i := 17) (oi := ({ dst := some 132, op := Op.pick (Operand.tmp 116) (Operand.tmp 131) (Operand.const (Value.bool false)), type := 4, pos := _, after := #[{ on := 1, ground := Ground.data }, { on := 16, ground := Ground.data }], guard := none } : Oper)) (v := ?_) rfl (by kernel_rfl) (by kernel_rfl) (by kernel_rfl) (fun _ _ _ h => h) (Or.inl ⟨by rfl, ?_⟩) (trivial) ?_
          rotate_left
          · intro w hSw
            try dsimp only at hSw
            go_simp
            try with_reducible rfl
          try simp only [Act.put, List.setIfInBounds_toArray, List.set_cons_zero, List.set_cons_succ]
          refine wpAnyH_done (by kernel_rfl) ?_ _
          go_wp2_with fail
          go_roundg (m + 1 - (i + 1))
          case measure => omega
          case rel => exact ⟨i + 1, false, rfl, by omega, by go_num, rfl, Lib.hid (by rw [all_step, ← hbb.out, ← HOK.out]; rfl), hH.kept (below_drewN (Below.refl _ _) 1), hv.below (below_drewN (Below.refl _ _) 1), hP, hQ, below_drewN hb 1⟩
        · go_upto_region 25 with (first | (go_at_call 13; (with_reducible refine hget.mono ?_); clear hget; rintro e w8 ⟨g', n', p', gA, ga, gc, rfl, hH8, hb8⟩) | fail)
          refine wp_world (fun wz => HS wz B sb lb zb tb 65536 s ∧ RdF wz (.slice (some ⟨nb, 0, none⟩) 1 1) [97] ∧ Blk wz pa 33 #[.int .u64 g, .int .u64 a] ∧ Blk wz (pa + 1) 33 #[.int .u64 g, .int .u64 (a + m)] ∧ Below w.heap.size w wz) ⟨hH8.kept ((Below.refl _ _).alloc (Nat.le_refl _) _), (hv.below hb8).below ((Below.refl _ _).alloc (Nat.le_refl _) _), (hP.same hb8).alloc _, (hQ.same hb8).alloc _, (hb.trans (hb8.mono hb.size)).alloc (Nat.le_trans hb.size hb8.size) _⟩ ?_
          clear hH hv hP hQ hb hH8 hb8 q0 r1
          rintro w9 ⟨hH, hv, hP, hQ, hb⟩
          refine wp_region_held_drew (S := fun _ => True) (by kernel_rfl) (trivial) (fun _ => ?_)
          refine wpAnyH_take (i := 0) (oi := ({ dst := some 115, op := Op.move (Operand.tmp 18), type := 4, pos := _, after := #[], guard := none } : Oper)) (v := ?_) rfl (by kernel_rfl) (by kernel_rfl) (by kernel_rfl) (fun _ _ _ h => h) (Or.inl ⟨by rfl, ?_⟩) (trivial) ?_
          rotate_left
          · intro w hSw
            try dsimp only at hSw
            go_simp
            try with_reducible rfl
          try simp only [Act.put, List.setIfInBounds_toArray, List.set_cons_zero, List.set_cons_succ]
          refine wpAnyH_take (i := 1) (oi := ({ dst := some 116, op := Op.move (Operand.tmp 115), type := 4, pos := _, after := #[{ on := 0, ground := Ground.data }], guard := none } : Oper)) (v := ?_) rfl (by kernel_rfl) (by kernel_rfl) (by kernel_rfl) (fun _ _ _ h => h) (Or.inl ⟨by rfl, ?_⟩) (trivial) ?_
          rotate_left
          · intro w hSw
            try dsimp only at hSw
            go_simp
            try with_reducible rfl
          try simp only [Act.put, List.setIfInBounds_toArray, List.set_cons_zero, List.set_cons_succ]
          refine wpAnyH_take (i := 2) (oi := ({ dst := some 117, op := Op.move (Operand.tmp 17), type := 44, pos := _, after := #[{ on := 1, ground := Ground.guard }], guard := some (1, true) } : Oper)) (v := undef) rfl (by kernel_rfl) (by kernel_rfl) (by kernel_rfl) (fun _ _ _ h => h) (Or.inr ⟨by rfl, rfl⟩) (trivial) ?_
          try simp only [Act.put, List.setIfInBounds_toArray, List.set_cons_zero, List.set_cons_succ]
          refine wpAnyH_take (i := 3) (oi := ({ dst := some 118, op := Op.move (Operand.tmp 20), type := 31, pos := _, after := #[{ on := 1, ground := Ground.guard }], guard := some (1, true) } : Oper)) (v := undef) rfl (by kernel_rfl) (by kernel_rfl) (by kernel_rfl) (fun _ _ _ h => h) (Or.inr ⟨by rfl, rfl⟩) (trivial) ?_
          try simp only [Act.put, List.setIfInBounds_toArray, List.set_cons_zero, List.set_cons_succ]
          refine wpAnyH_take (i := 4) (oi := ({ dst := some 119, op := Op.fieldAddr 33 (Operand.tmp 15) 1, type := 0, pos := _, after := #[{ on := 1, ground := Ground.guard }], guard := some (1, true) } : Oper)) (v := undef) rfl (by kernel_rfl) (by kernel_rfl) (by kernel_rfl) (fun _ _ _ h => h) (Or.inr ⟨by rfl, rfl⟩) (trivial) ?_
          try simp only [Act.put, List.setIfInBounds_toArray, List.set_cons_zero, List.set_cons_succ]
          refine wpAnyH_take (i := 5) (oi := ({ dst := some 120, op := Op.load 31 (Operand.tmp 119), type := 31, pos := _, after := #[{ on := 4, ground := Ground.data }, { on := 1, ground := Ground.guard }], guard := some (1, true) } : Oper)) (v := undef) rfl (by kernel_rfl) (by kernel_rfl) (by kernel_rfl) (fun _ _ _ h => h) (Or.inr ⟨by rfl, rfl⟩) (trivial) ?_
          try simp only [Act.put, List.setIfInBounds_toArray, List.set_cons_zero, List.set_cons_succ]
          refine wpAnyH_take (i := 6) (oi := ({ dst := some 121, op := Op.binOp BinOp.sub 31 (Operand.tmp 118) (Operand.tmp 120) 31, type := 31, pos := _, after := #[{ on := 3, ground := Ground.data }, { on := 5, ground := Ground.data }, { on := 1, ground := Ground.guard }], guard := some (1, true) } : Oper)) (v := undef) rfl (by kernel_rfl) (by kernel_rfl) (by kernel_rfl) (fun _ _ _ h => h) (Or.inr ⟨by rfl, rfl⟩) (trivial) ?_
          try simp only [Act.put, List.setIfInBounds_toArray, List.set_cons_zero, List.set_cons_succ]
          refine wpAnyH_take (i := 7) (oi := ({ dst := some 122, op := Op.move (Operand.tmp 20), type := 31, pos := _, after := #[{ on := 1, ground := Ground.guard }], guard := some (1, true) } : Oper)) (v := undef) rfl (by kernel_rfl) (by kernel_rfl) (by kernel_rfl) (fun _ _ _ h => h) (Or.inr ⟨by rfl, rfl⟩) (trivial) ?_
          try simp only [Act.put, List.setIfInBounds_toArray, List.set_cons_zero, List.set_cons_succ]
          refine wpAnyH_take (i := 8) (oi := ({ dst := some 123, op := Op.fieldAddr 33 (Operand.tmp 15) 1, type := 0, pos := _, after := #[{ on := 1, ground := Ground.guard }], guard := some (1, true) } : Oper)) (v := undef) rfl (by kernel_rfl) (by kernel_rfl) (by kernel_rfl) (fun _ _ _ h => h) (Or.inr ⟨by rfl, rfl⟩) (trivial) ?_
          try simp only [Act.put, List.setIfInBounds_toArray, List.set_cons_zero, List.set_cons_succ]
          refine wpAnyH_take (i := 9) (oi := ({ dst := some 124, op := Op.load 31 (Operand.tmp 123), type := 31, pos := _, after := #[{ on := 8, ground := Ground.data }, { on := 1, ground := Ground.guard }], guard := some (1, true) } : Oper)) (v := undef) rfl (by kernel_rfl) (by kernel_rfl) (by kernel_rfl) (fun _ _ _ h => h) (Or.inr ⟨by rfl, rfl⟩) (trivial) ?_
          try simp only [Act.put, List.setIfInBounds_toArray, List.set_cons_zero, List.set_cons_succ]
          refine wpAnyH_take (i := 10) (oi := ({ dst := some 125, op := Op.binOp BinOp.sub 31 (Operand.tmp 122) (Operand.tmp 124) 31, type := 31, pos := _, after := #[{ on := 7, ground := Ground.data }, { on := 9, ground := Ground.data }, { on := 1, ground := Ground.guard }], guard := some (1, true) } : Oper)) (v := undef) rfl (by kernel_rfl) (by kernel_rfl) (by kernel_rfl) (fun _ _ _ h => h) (Or.inr ⟨by rfl, rfl⟩) (trivial) ?_
          try simp only [Act.put, List.setIfInBounds_toArray, List.set_cons_zero, List.set_cons_succ]
          refine wpAnyH_take (i := 11) (oi := ({ dst := some 126, op := Op.binOp BinOp.add 31 (Operand.tmp 125) (Operand.const (Value.int IntKind.u64 1)) 31, type := 31, pos := _, after := #[{ on := 10, ground := Ground.data }, { on := 1, ground := Ground.guard }], guard := some (1, true) } : Oper)) (v := undef) rfl (by kernel_rfl) (by kernel_rfl) (by kernel_rfl) (fun _ _ _ h => h) (Or.inr ⟨by rfl, rfl⟩) (trivial) ?_
          try simp only [Act.put, List.setIfInBounds_toArray, List.set_cons_zero, List.set_cons_succ]
          refine wpAnyH_take (i := 12) (oi := ({ dst := some 127, op := Op.slice 44 (Operand.tmp 117) (some (Operand.tmp 121)) (some (Operand.tmp 126)) none, type := 44, pos := _, after := #[{ on := 2, ground := Ground.data }, { on := 6, ground := Ground.data }, { on := 11, ground := Ground.data }, { on := 1, ground := Ground.guard }], guard := some (1, true) } : Oper)) (v := undef) rfl (by kernel_rfl) (by kernel_rfl) (by kernel_rfl) (fun _ _ _ h => h) (Or.inr ⟨by rfl, rfl⟩) (trivial) ?_
          try simp only [Act.put, List.setIfInBounds_toArray, List.set_cons_zero, List.set_cons_succ]
          refine wpAnyH_take (i := 13) (oi := ({ dst := some 128, op := Op.load 35 (Operand.tmp 21), type := 35, pos := _, after := #[{ on := 1, ground := Ground.guard }], guard := some (1, true) } : Oper)) (v := undef) rfl (by kernel_rfl) (by kernel_rfl) (by kernel_rfl) (fun _ _ _ h => h) (Or.inr ⟨by rfl, rfl⟩) (trivial) ?_
          try simp only [Act.put, List.setIfInBounds_toArray, List.set_cons_zero, List.set_cons_succ]
          refine wpAnyH_take (i := 14) (oi := ({ dst := some 129, op := Op.buildSlice 44 1 #[(0, Operand.tmp 128)], type := 44, pos := _, after := #[{ on := 13, ground := Ground.data }, { on := 1, ground := Ground.guard }], guard := some (1, true) } : Oper)) (v := undef) rfl (by kernel_rfl) (by kernel_rfl) (by kernel_rfl) (fun _ _ _ h => h) (Or.inr ⟨by rfl, rfl⟩) (trivial) ?_
          try simp only [Act.put, List.setIfInBounds_toArray, List.set_cons_zero, List.set_cons_succ]
          refine wpAnyH_take (i := 15) (oi := ({ dst := some 130, op := Op.call { callee := Callee.value (Operand.func 14), args := #[Operand.tmp 127, Operand.tmp 129], argTypes := #[44, 44] }, type := 4, pos := _, after := #[{ on := 12, ground := Ground.data }, { on := 14, ground := Ground.data }, { on := 1, ground := Ground.chain }, { on := 1, ground := Ground.guard }], guard := some (1, true) } : Oper)) (v := undef) rfl (by kernel_rfl) (by kernel_rfl) (by kernel_rfl) (fun _ _ _ h => h) (Or.inr ⟨by rfl, rfl⟩) (trivial) ?_
          try simp only [Act.put, List.setIfInBounds_toArray, List.set_cons_zero, List.set_cons_succ]
          refine wpAnyH_take (i := 16) (oi := ({ dst := some 131, op := Op.unOp UnOp.not 4 (Operand.tmp 130), type := 4, pos := _, after := #[{ on := 15, ground := Ground.data }, { on := 1, ground := Ground.guard }], guard := some (1, true) } : Oper)) (v := undef) rfl (by kernel_rfl) (by kernel_rfl) (by kernel_rfl) (fun _ _ _ h => h) (Or.inr ⟨by rfl, rfl⟩) (trivial) ?_
          try simp only [Act.put, List.setIfInBounds_toArray, List.set_cons_zero, List.set_cons_succ]
          refine wpAnyH_take (i := 17) (oi := ({ dst := some 132, op := Op.pick (Operand.tmp 116) (Operand.tmp 131) (Operand.const (Value.bool false)), type := 4, pos := _, after := #[{ on := 1, ground := Ground.data }, { on := 16, ground := Ground.data }], guard := none } : Oper)) (v := ?_) rfl (by kernel_rfl) (by kernel_rfl) (by kernel_rfl) (fun _ _ _ h => h) (Or.inl ⟨by rfl, ?_⟩) (trivial) ?_
          rotate_left
          · intro w hSw
            try dsimp only at hSw
            go_simp
            try with_reducible rfl
          try simp only [Act.put, List.setIfInBounds_toArray, List.set_cons_zero, List.set_cons_succ]
          refine wpAnyH_done (by kernel_rfl) ?_ _
          go_wp2_with fail
          go_roundg (m + 1 - (i + 1))
          case measure => omega
          case rel => exact ⟨i + 1, true, rfl, by omega, by go_num, rfl, Lib.hid (by rw [all_step, ← hbb.out, ← HOK.out]; rfl), hH.kept (below_drewN (Below.refl _ _) 1), hv.below (below_drewN (Below.refl _ _) 1), hP, hQ, below_drewN hb 1⟩
      · have hle : decide (a + (i : Int) ≤ a + (m : Int)) = false := decide_eq_false (by omega)
        have hi : i = m + 1 := by omega
        have hbf : bb = false := by
          rw [hbb.out, decide_eq_false_iff_not]
          rw [hi]
          exact HNA.out
        subst hbf
        have hlen : decide ((0 : Int) ≤ (m : Int) + 1) = true := decide_eq_true (by omega)
        go_wp2_with fail
        go_ret
        exact ⟨rfl, hb⟩
  | some L =>
    obtain ⟨hLl, hLa⟩ := prun_some hpr
    rw [hpr] at hrun
    have hrun' := hrun.mono (R' := fun e w' => ∃ (rb rc : Nat) (LV : List (En × Value)), e = .returned (.tuple #[.slice (some ⟨rb, 0, none⟩) (m + 1) rc, .bool true]) ∧ LV.map (·.1) = L ∧ LV.length = m + 1 ∧ OW w' w5.heap.size (.slice (some ⟨rb, 0, none⟩) (m + 1) rc) LV ∧ m + 1 ≤ rc ∧ rc ≤ maxLen ∧ HS w' B sb lb zb tb 65536 s ∧ Below w5.heap.size w5 w') (fun e w' h => by
      obtain ⟨h1, h2, rv, LV, he, hm, hW⟩ := h
      have hl : LV.length = m + 1 := by rw [← hLl, ← hm, List.length_map]
      rcases hW.row.2 with ⟨_, h0⟩ | ⟨g', cap, cur, e2, _, hbk, hn, hc, _⟩
      · omega
      · rw [hl] at e2 hn
        subst e2
        exact ⟨g', cap, LV, he, hm, hl, hW, hn, hc, h1, h2⟩)
    clear hrun hpr
    have HLL := Lib.hid hLl
    have HLA := Lib.hid hLa
    clear hLl hLa
    have hlen : ((m : Int) + 1 != (m : Int) + 1) = false := by simp
    go_upto_block 2 with (first | (go_at_call 17; (with_reducible refine hrun'.mono ?_); clear hrun'; rintro e w6 ⟨rb, rc, LV, rfl, hLV, hLVl, hW6, hrc, hrcm, hH6, hb6⟩; have q6 : World.cell? w6 ⟨pa, 1, none⟩ = some (.int .u64 a) := (hP.same hb6).cell 1; have HLV := Lib.hid hLV; have HLVL := Lib.hid hLVl; clear hLV hLVl) | fail)
    refine wp_world (fun wz => HS wz B sb lb zb tb 65536 s ∧ RdF wz (.slice (some ⟨nb, 0, none⟩) 1 1) [97] ∧ Blk wz pa 33 #[.int .u64 g, .int .u64 a] ∧ Blk wz (pa + 1) 33 #[.int .u64 g, .int .u64 (a + m)] ∧ OW wz w5.heap.size (.slice (some ⟨rb, 0, none⟩) (m + 1) rc) LV ∧ Below w.heap.size w wz) ⟨hH6, hv.below hb6, hP.same hb6, hQ.same hb6, hW6, hb.trans (hb6.mono hb.size)⟩ ?_
    clear hH hv hP hQ hb q0 q1 r0 r1 hH6 hb6 q6 hW6
    rintro w7 ⟨hH, hv, hP, hQ, hW, hb⟩
    go_wp2_with fail
    rw [hmd]
    go_loopg [19, 20] (m + 1) (fun gk s19 s20 wz => ∃ (i : Nat), gk = m + 1 - i ∧ i ≤ m + 1 ∧ s20 = .int .u64 (a + i) ∧ s19 = .bool true ∧ HS wz B sb lb zb tb 65536 s ∧ RdF wz (.slice (some ⟨nb, 0, none⟩) 1 1) [97] ∧ Blk wz pa 33 #[.int .u64 g, .int .u64 a] ∧ Blk wz (pa + 1) 33 #[.int .u64 g, .int .u64 (a + m)] ∧ OW wz w5.heap.size (.slice (some ⟨rb, 0, none⟩) (m + 1) rc) LV ∧ Below w.heap.size w wz)
    case atStart => exact ⟨0, rfl, Nat.zero_le _, by simp, rfl, hH, hv, hP, hQ, hW, hb⟩
    case round =>
      clear hH hv hP hQ hW hb
      obtain ⟨i, hgk, him, rfl, rfl, hH, hv, hP, hQ, hW, hb⟩ := hrel
      have q0 : World.cell? wr ⟨pa, 0, none⟩ = some (.int .u64 g) := hP.cell 0
      have r1 : World.cell? wr ⟨pa + 1, 1, none⟩ = some (.int .u64 (a + m)) := hQ.cell 1
      by_cases hlt : i ≤ m
      · have hle : decide (a + (i : Int) ≤ a + (m : Int)) = true := decide_eq_true (by omega)
        have hw2 : IntKind.u64.wrap (a + (i : Int) + 1) = a + (i : Int) + 1 := by rw [IntKind.wrap_u64]; omega
        obtain ⟨⟨y, dv⟩, hyv⟩ : ∃ z, z = LV[i]'(by have := HLVL.out; omega) := ⟨_, rfl⟩
        have hpg : pget s [97] g (a + (i : Nat)) = some y := by
          have h1 := HLA.out i (by have := HLL.out; omega)
          rw [h1]
          have h2 : L[i]'(by have := HLL.out; omega) = (LV[i]'(by have := HLVL.out; omega)).1 := by simp only [← HLV.out, List.getElem_map]
          rw [h2, ← hyv]
        have hget := get_any B sb lb zb tb (.slice (some ⟨nb, 0, none⟩) 1 1) 65536 g (a + i) [97] s wr hH hv.1 aw_bytes (by simp) ⟨by omega, by omega⟩ ⟨by omega, by omega⟩ hok (by omega) y.g y.n y.p y.d true (by rw [hpg]; rfl)
        have HYV := Lib.hid hyv
        clear hpg hyv
        go_upto_region 25 with (first | (go_at_call 13; (with_reducible refine hget.mono ?_); clear hget; rintro e w8 ⟨dv8, rfl, ho8, hH8, hb8⟩; obtain ⟨cA, cc, rfl, _⟩ := sl_of_own ho8) | fail)
        have hba : Below w8.heap.size w8 (w8.alloc (.cells #[.int .u64 y.g, .int .u64 y.n, .int .u8 y.p, .bool false, .slice cA y.d.length cc] 35)) := (Below.refl _ _).alloc (Nat.le_refl _) _
        have hb08 := hb.trans (hb8.mono hb.size)
        refine wp_world (fun wz => HS wz B sb lb zb tb 65536 s ∧ RdF wz (.slice (some ⟨nb, 0, none⟩) 1 1) [97] ∧ Blk wz pa 33 #[.int .u64 g, .int .u64 a] ∧ Blk wz (pa + 1) 33 #[.int .u64 g, .int .u64 (a + m)] ∧ OW wz w5.heap.size (.slice (some ⟨rb, 0, none⟩) (m + 1) rc) LV ∧ Below w.heap.size w wz ∧ Blk wz w8.heap.size 35 #[.int .u64 y.g, .int .u64 y.n, .int .u8 y.p, .bool false, .slice cA y.d.length cc] ∧ RdT wz (.slice cA y.d.length cc) y.d) ⟨hH8.kept hba, (hv.below hb8).below hba, (hP.same hb8).same hba, (hQ.same hb8).same hba, (hW.below hb8).below hba, hb08.trans (hba.mono hb08.size), Blk.new w8 35 #[.int .u64 y.g, .int .u64 y.n, .int .u8 y.p, .bool false, .slice cA y.d.length cc], (rdt_of_own ho8).below hba⟩ ?_
        obtain ⟨ob, hob⟩ : ∃ ob, ob = w8.heap.size := ⟨_, rfl⟩
        rw [← hob]
        clear hH hv hP hQ hW hb hH8 hb8 q0 r1 hba hb08 hob ho8
        rintro w9 ⟨hH, hv, hP, hQ, hW, hb, hO, hD⟩
        have q1 : World.cell? w9.drew ⟨pa, 1, none⟩ = some (.int .u64 a) := hP.cell 1
        have y0 : World.cell? w9.drew ⟨ob, 0, none⟩ = some (.int .u64 y.g) := hO.cell 0
        have y1 : World.cell? w9.drew ⟨ob, 1, none⟩ = some (.int .u64 y.n) := hO.cell 1
        have y2 : World.cell? w9.drew ⟨ob, 2, none⟩ = some (.int .u8 y.p) := hO.cell 2
        have y3 : World.cell? w9.drew ⟨ob, 3, none⟩ = some (.bool false) := hO.cell 3
        have y4 : World.cell? w9.drew ⟨ob, 4, none⟩ = some (.slice cA y.d.length cc) := hO.cell 4
        have hs1 : a + (i : Int) - a = i := by omega
        have hw3 : IntKind.u64.wrap (i : Int) = i := by rw [IntKind.wrap_u64]; omega
        have hw4 : IntKind.u64.wrap ((i : Int) + 1) = (i : Int) + 1 := by rw [IntKind.wrap_u64]; omega
        have hi0 : (0 : Int) ≤ (i : Int) + 1 := by omega
        have hi1 : (i : Int) + 1 ≤ (rc : Int) := by omega
        have hrci : ¬ rc = i := by omega
        have hA := hW.ord (y := y) (dv := dv) (by have := HLVL.out; omega) HYV.out.symm
        have hBl := ORd.of_blk (Blk.new w9.drew 35 #[.int .u64 y.g, .int .u64 y.n, .int .u8 y.p, .bool false, .slice cA y.d.length cc]) ((show RdT w9.drew _ _ from hD).alloc (.cells #[.int .u64 y.g, .int .u64 y.n, .int .u8 y.p, .bool false, .slice cA y.d.length cc] 35)).1
        have hA1 := hA.below (w' := w9.drew.alloc (.cells #[.int .u64 y.g, .int .u64 y.n, .int .u8 y.p, .bool false, .slice cA y.d.length cc] 35)) ((below_drewN (Below.refl _ _) 1).alloc (Nat.le_refl _) _)
        have HKS : Hid (∀ W, Below w9.drew.heap.size w9.drew W → World.cell? W ⟨pa, 1, none⟩ = some (.int .u64 a) ∧ World.cell? W ⟨ob, 0, none⟩ = some (.int .u64 y.g) ∧ World.cell? W ⟨ob, 1, none⟩ = some (.int .u64 y.n) ∧ World.cell? W ⟨ob, 2, none⟩ = some (.int .u8 y.p) ∧ World.cell? W ⟨ob, 3, none⟩ = some (.bool false) ∧ World.cell? W ⟨ob, 4, none⟩ = some (.slice cA y.d.length cc)) := Lib.hid (fun W hW' => ⟨(Blk.same (show Blk w9.drew pa 33 _ from hP) hW').cell 1, (Blk.same (show Blk w9.drew ob 35 _ from hO) hW').cell 0, (Blk.same (show Blk w9.drew ob 35 _ from hO) hW').cell 1, (Blk.same (show Blk w9.drew ob 35 _ from hO) hW').cell 2, (Blk.same (show Blk w9.drew ob 35 _ from hO) hW').cell 3, (Blk.same (show Blk w9.drew ob 35 _ from hO) hW').cell 4⟩)
        have hba : Below w9.drew.heap.size w9.drew (w9.drew.alloc (.cells #[.int .u64 y.g, .int .u64 y.n, .int .u8 y.p, .bool false, .slice cA y.d.length cc] 35)) := (Below.refl _ _).alloc (Nat.le_refl _) _
        have hba2 : Below w9.drew.heap.size w9.drew (w9.alloc (.cells #[.int .u64 y.g, .int .u64 y.n, .int .u8 y.p, .bool false, .slice cA y.d.length cc] 35)).drew := hba
        have hA2 : ORd (w9.alloc (.cells #[.int .u64 y.g, .int .u64 y.n, .int .u8 y.p, .bool false, .slice cA y.d.length cc] 35)).drew (some ⟨rb, i * 5, none⟩) [(y.g, y.n, y.p, false, y.d)] := hA1
        have hB2 : ORd (w9.alloc (.cells #[.int .u64 y.g, .int .u64 y.n, .int .u8 y.p, .bool false, .slice cA y.d.length cc] 35)).drew (some ⟨w9.heap.size, 0, none⟩) [(y.g, y.n, y.p, false, y.d)] := hBl
        clear hA hA1 hBl
        refine wp_region_held_drew (S := fun W => World.cell? W ⟨pa, 1, none⟩ = some (.int .u64 a) ∧ World.cell? W ⟨ob, 0, none⟩ = some (.int .u64 y.g) ∧ World.cell? W ⟨ob, 1, none⟩ = some (.int .u64 y.n) ∧ World.cell? W ⟨ob, 2, none⟩ = some (.int .u8 y.p) ∧ World.cell? W ⟨ob, 3, none⟩ = some (.bool false) ∧ World.cell? W ⟨ob, 4, none⟩ = some (.slice cA y.d.length cc)) (by kernel_rfl) (by first | with_reducible exact ⟨q1, y0, y1, y2, y3, y4⟩ | with_reducible exact HKS.out _ hba2 | exact HKS.out _ (below_drewN hba2 nq)) (fun _ => ?_)
        refine wpAnyH_take (i := 0) (oi := ({ dst := some 115, op := Op.move (Operand.tmp 18), type := 4, pos := _, after := #[], guard := none } : Oper)) (v := ?_) rfl (by kernel_rfl) (by kernel_rfl) (by kernel_rfl) (fun _ _ _ h => h) (Or.inl ⟨by rfl, ?_⟩) (by first | with_reducible exact ⟨q1, y0, y1, y2, y3, y4⟩ | with_reducible exact HKS.out _ hba2 | exact HKS.out _ (below_drewN hba2 nq)) ?_
        rotate_left
        · intro w hSw
          try dsimp only at hSw
          go_simp
          try with_reducible rfl
        try simp only [Act.put, List.setIfInBounds_toArray, List.set_cons_zero, List.set_cons_succ]
        refine wpAnyH_take (i := 1) (oi := ({ dst := some 116, op := Op.move (Operand.tmp 115), type := 4, pos := _, after := #[{ on := 0, ground := Ground.data }], guard := none } : Oper)) (v := ?_) rfl (by kernel_rfl) (by kernel_rfl) (by kernel_rfl) (fun _ _ _ h => h) (Or.inl ⟨by rfl, ?_⟩) (by first | with_reducible exact ⟨q1, y0, y1, y2, y3, y4⟩ | with_reducible exact HKS.out _ hba2 | exact HKS.out _ (below_drewN hba2 nq)) ?_
        rotate_left
        · intro w hSw
          try dsimp only at hSw
          go_simp
          try with_reducible rfl
        try simp only [Act.put, List.setIfInBounds_toArray, List.set_cons_zero, List.set_cons_succ]
        refine wpAnyH_take (i := 2) (oi := ({ dst := some 117, op := Op.move (Operand.tmp 17), type := 44, pos := _, after := #[{ on := 1, ground := Ground.guard }], guard := some (1, true) } : Oper)) (v := ?_) rfl (by kernel_rfl) (by kernel_rfl) (by kernel_rfl) (fun _ _ _ h => h) (Or.inl ⟨by rfl, ?_⟩) (by first | with_reducible exact ⟨q1, y0, y1, y2, y3, y4⟩ | with_reducible exact HKS.out _ hba2 | exact HKS.out _ (below_drewN hba2 nq)) ?_
        rotate_left
        · intro w hSw
          try dsimp only at hSw
          go_simp
          try with_reducible rfl
        try simp only [Act.put, List.setIfInBounds_toArray, List.set_cons_zero, List.set_cons_succ]
        refine wpAnyH_take (i := 3) (oi := ({ dst := some 118, op := Op.move (Operand.tmp 20), type := 31, pos := _, after := #[{ on := 1, ground := Ground.guard }], guard := some (1, true) } : Oper)) (v := ?_) rfl (by kernel_rfl) (by kernel_rfl) (by kernel_rfl) (fun _ _ _ h => h) (Or.inl ⟨by rfl, ?_⟩) (by first | with_reducible exact ⟨q1, y0, y1, y2, y3, y4⟩ | with_reducible exact HKS.out _ hba2 | exact HKS.out _ (below_drewN hba2 nq)) ?_
        rotate_left
        · intro w hSw
          try dsimp only at hSw
          go_simp
          try with_reducible rfl
        try simp only [Act.put, List.setIfInBounds_toArray, List.set_cons_zero, List.set_cons_succ]
        refine wpAnyH_take (i := 4) (oi := ({ dst := some 119, op := Op.fieldAddr 33 (Operand.tmp 15) 1, type := 0, pos := _, after := #[{ on := 1, ground := Ground.guard }], guard := some (1, true) } : Oper)) (v := ?_) rfl (by kernel_rfl) (by kernel_rfl) (by kernel_rfl) (fun _ _ _ h => h) (Or.inl ⟨by rfl, ?_⟩) (by first | with_reducible exact ⟨q1, y0, y1, y2, y3, y4⟩ | with_reducible exact HKS.out _ hba2 | exact HKS.out _ (below_drewN hba2 nq)) ?_
        rotate_left
        · intro w hSw
          try dsimp only at hSw
          go_simp
          try with_reducible rfl
        try simp only [Act.put, List.setIfInBounds_toArray, List.set_cons_zero, List.set_cons_succ]
        refine wpAnyH_take (i := 5) (oi := ({ dst := some 120, op := Op.load 31 (Operand.tmp 119), type := 31, pos := _, after := #[{ on := 4, ground := Ground.data }, { on := 1, ground := Ground.guard }], guard := some (1, true) } : Oper)) (v := ?_) rfl (by kernel_rfl) (by kernel_rfl) (by kernel_rfl) (fun _ _ _ h => h) (Or.inl ⟨by rfl, ?_⟩) (by first | with_reducible exact ⟨q1, y0, y1, y2, y3, y4⟩ | with_reducible exact HKS.out _ hba2 | exact HKS.out _ (below_drewN hba2 nq)) ?_
        rotate_left
        · intro w hSw
          try dsimp only at hSw
          go_simp
          try with_reducible rfl
        try simp only [Act.put, List.setIfInBounds_toArray, List.set_cons_zero, List.set_cons_succ]
        refine wpAnyH_take (i := 6) (oi := ({ dst := some 121, op := Op.binOp BinOp.sub 31 (Operand.tmp 118) (Operand.tmp 120) 31, type := 31, pos := _, after := #[{ on := 3, ground := Ground.data }, { on := 5, ground := Ground.data }, { on := 1, ground := Ground.guard }], guard := some (1, true) } : Oper)) (v := ?_) rfl (by kernel_rfl) (by kernel_rfl) (by kernel_rfl) (fun _ _ _ h => h) (Or.inl ⟨by rfl, ?_⟩) (by first | with_reducible exact ⟨q1, y0, y1, y2, y3, y4⟩ | with_reducible exact HKS.out _ hba2 | exact HKS.out _ (below_drewN hba2 nq)) ?_
        rotate_left
        · intro w hSw
          try dsimp only at hSw
          go_simp
          try with_reducible rfl
        try simp only [Act.put, List.setIfInBounds_toArray, List.set_cons_zero, List.set_cons_succ]
        refine wpAnyH_take (i := 7) (oi := ({ dst := some 122, op := Op.move (Operand.tmp 20), type := 31, pos := _, after := #[{ on := 1, ground := Ground.guard }], guard := some (1, true) } : Oper)) (v := ?_) rfl (by kernel_rfl) (by kernel_rfl) (by kernel_rfl) (fun _ _ _ h => h) (Or.inl ⟨by rfl, ?_⟩) (by first | with_reducible exact ⟨q1, y0, y1, y2, y3, y4⟩ | with_reducible exact HKS.out _ hba2 | exact HKS.out _ (below_drewN hba2 nq)) ?_
        rotate_left
        · intro w hSw
          try dsimp only at hSw
          go_simp
          try with_reducible rfl
        try simp only [Act.put, List.setIfInBounds_toArray, List.set_cons_zero, List.set_cons_succ]
        refine wpAnyH_take (i := 8) (oi := ({ dst := some 123, op := Op.fieldAddr 33 (Operand.tmp 15) 1, type := 0, pos := _, after := #[{ on := 1, ground := Ground.guard }], guard := some (1, true) } : Oper)) (v := ?_) rfl (by kernel_rfl) (by kernel_rfl) (by kernel_rfl) (fun _ _ _ h => h) (Or.inl ⟨by rfl, ?_⟩) (by first | with_reducible exact ⟨q1, y0, y1, y2, y3, y4⟩ | with_reducible exact HKS.out _ hba2 | exact HKS.out _ (below_drewN hba2 nq)) ?_
        rotate_left
        · intro w hSw
          try dsimp only at hSw
          go_simp
          try with_reducible rfl
        try simp only [Act.put, List.setIfInBounds_toArray, List.set_cons_zero, List.set_cons_succ]
        refine wpAnyH_take (i := 9) (oi := ({ dst := some 124, op := Op.load 31 (Operand.tmp 123), type := 31, pos := _, after := #[{ on := 8, ground := Ground.data }, { on := 1, ground := Ground.guard }], guard := some (1, true) } : Oper)) (v := ?_) rfl (by kernel_rfl) (by kernel_rfl) (by kernel_rfl) (fun _ _ _ h => h) (Or.inl ⟨by rfl, ?_⟩) (by first | with_reducible exact ⟨q1, y0, y1, y2, y3, y4⟩ | with_reducible exact HKS.out _ hba2 | exact HKS.out _ (below_drewN hba2 nq)) ?_
        rotate_left
        · intro w hSw
          try dsimp only at hSw
          go_simp
          try with_reducible rfl
        try simp only [Act.put, List.setIfInBounds_toArray, List.set_cons_zero, List.set_cons_succ]
        refine wpAnyH_take (i := 10) (oi := ({ dst := some 125, op := Op.binOp BinOp.sub 31 (Operand.tmp 122) (Operand.tmp 124) 31, type := 31, pos := _, after := #[{ on := 7, ground := Ground.data }, { on := 9, ground := Ground.data }, { on := 1, ground := Ground.guard }], guard := some (1, true) } : Oper)) (v := ?_) rfl (by kernel_rfl) (by kernel_rfl) (by kernel_rfl) (fun _ _ _ h => h) (Or.inl ⟨by rfl, ?_⟩) (by first | with_reducible exact ⟨q1, y0, y1, y2, y3, y4⟩ | with_reducible exact HKS.out _ hba2 | exact HKS.out _ (below_drewN hba2 nq)) ?_
        rotate_left
        · intro w hSw
          try dsimp only at hSw
          go_simp
          try with_reducible rfl
        try simp only [Act.put, List.setIfInBounds_toArray, List.set_cons_zero, List.set_cons_succ]
        refine wpAnyH_take (i := 11) (oi := ({ dst := some 126, op := Op.binOp BinOp.add 31 (Operand.tmp 125) (Operand.const (Value.int IntKind.u64 1)) 31, type := 31, pos := _, after := #[{ on := 10, ground := Ground.data }, { on := 1, ground := Ground.guard }], guard := some (1, true) } : Oper)) (v := ?_) rfl (by kernel_rfl) (by kernel_rfl) (by kernel_rfl) (fun _ _ _ h => h) (Or.inl ⟨by rfl, ?_⟩) (by first | with_reducible exact ⟨q1, y0, y1, y2, y3, y4⟩ | with_reducible exact HKS.out _ hba2 | exact HKS.out _ (below_drewN hba2 nq)) ?_
        rotate_left
        · intro w hSw
          try dsimp only at hSw
          go_simp
          try with_reducible rfl
        try simp only [Act.put, List.setIfInBounds_toArray, List.set_cons_zero, List.set_cons_succ]
        refine wpAnyH_take (i := 12) (oi := ({ dst := some 127, op := Op.slice 44 (Operand.tmp 117) (some (Operand.tmp 121)) (some (Operand.tmp 126)) none, type := 44, pos := _, after := #[{ on := 2, ground := Ground.data }, { on := 6, ground := Ground.data }, { on := 11, ground := Ground.data }, { on := 1, ground := Ground.guard }], guard := some (1, true) } : Oper)) (v := ?_) rfl (by kernel_rfl) (by kernel_rfl) (by kernel_rfl) (fun _ _ _ h => h) (Or.inl ⟨by rfl, ?_⟩) (by first | with_reducible exact ⟨q1, y0, y1, y2, y3, y4⟩ | with_reducible exact HKS.out _ hba2 | exact HKS.out _ (below_drewN hba2 nq)) ?_
        rotate_left
        · intro w hSw
          try dsimp only at hSw
          go_simp
          try with_reducible rfl
        try simp only [Act.put, List.setIfInBounds_toArray, List.set_cons_zero, List.set_cons_succ]
        refine wpAnyH_take (i := 13) (oi := ({ dst := some 128, op := Op.load 35 (Operand.tmp 21), type := 35, pos := _, after := #[{ on := 1, ground := Ground.guard }], guard := some (1, true) } : Oper)) (v := ?_) rfl (by kernel_rfl) (by kernel_rfl) (by kernel_rfl) (fun _ _ _ h => h) (Or.inl ⟨by rfl, ?_⟩) (by first | with_reducible exact ⟨q1, y0, y1, y2, y3, y4⟩ | with_reducible exact HKS.out _ hba2 | exact HKS.out _ (below_drewN hba2 nq)) ?_
        rotate_left
        · intro w hSw
          try dsimp only at hSw
          go_simp
          try with_reducible rfl
        try simp only [Act.put, List.setIfInBounds_toArray, List.set_cons_zero, List.set_cons_succ]
        refine wpAnyH_ready (rs := [14]) (by kernel_rfl) (by simp) ?_
        refine AllReadyH.cons (o := ({ dst := some 129, op := Op.buildSlice 44 1 #[(0, Operand.tmp 128)], type := 44, pos := _, after := #[{ on := 13, ground := Ground.data }, { on := 1, ground := Ground.guard }], guard := some (1, true) } : Oper)) rfl (fun K hK => ?_) AllReadyH.nil
        go_simp
        refine hK.out _ _ (by first | with_reducible exact ⟨q1, y0, y1, y2, y3, y4⟩ | with_reducible exact HKS.out _ hba2 | exact HKS.out _ (below_drewN hba2 nq)) (fun _ => ?_)
        clear hK K
        try simp only [Act.put, List.setIfInBounds_toArray, List.set_cons_zero, List.set_cons_succ]
        refine wpAnyH_ready (rs := [15]) (by kernel_rfl) (by simp) ?_
        refine AllReadyH.cons (o := ({ dst := some 130, op := Op.call { callee := Callee.value (Operand.func 14), args := #[Operand.tmp 127, Operand.tmp 129], argTypes := #[44, 44] }, type := 4, pos := _, after := #[{ on := 12, ground := Ground.data }, { on := 14, ground := Ground.data }, { on := 1, ground := Ground.chain }, { on := 1, ground := Ground.guard }], guard := some (1, true) } : Oper)) rfl (fun K hK => ?_) AllReadyH.nil
        go_simp
        go_at_call 14
        (with_reducible refine (same_one _ _ _ _ _ _ hA2 hB2).mono ?_)
        rintro e wq ⟨rfl, nq, rfl⟩
        refine hK.out _ _ (by first | with_reducible exact ⟨q1, y0, y1, y2, y3, y4⟩ | with_reducible exact HKS.out _ hba2 | exact HKS.out _ (below_drewN hba2 nq)) (fun _ => ?_)
        clear hK K
        try simp only [Act.put, List.setIfInBounds_toArray, List.set_cons_zero, List.set_cons_succ]
        refine wpAnyH_take (i := 16) (oi := ({ dst := some 131, op := Op.unOp UnOp.not 4 (Operand.tmp 130), type := 4, pos := _, after := #[{ on := 15, ground := Ground.data }, { on := 1, ground := Ground.guard }], guard := some (1, true) } : Oper)) (v := ?_) rfl (by kernel_rfl) (by kernel_rfl) (by kernel_rfl) (fun _ _ _ h => h) (Or.inl ⟨by rfl, ?_⟩) (by first | with_reducible exact ⟨q1, y0, y1, y2, y3, y4⟩ | with_reducible exact HKS.out _ hba2 | exact HKS.out _ (below_drewN hba2 nq)) ?_
        rotate_left
        · intro w hSw
          try dsimp only at hSw
          go_simp
          try with_reducible rfl
        try simp only [Act.put, List.setIfInBounds_toArray, List.set_cons_zero, List.set_cons_succ]
        refine wpAnyH_take (i := 17) (oi := ({ dst := some 132, op := Op.pick (Operand.tmp 116) (Operand.tmp 131) (Operand.const (Value.bool false)), type := 4, pos := _, after := #[{ on := 1, ground := Ground.data }, { on := 16, ground := Ground.data }], guard := none } : Oper)) (v := ?_) rfl (by kernel_rfl) (by kernel_rfl) (by kernel_rfl) (fun _ _ _ h => h) (Or.inl ⟨by rfl, ?_⟩) (by first | with_reducible exact ⟨q1, y0, y1, y2, y3, y4⟩ | with_reducible exact HKS.out _ hba2 | exact HKS.out _ (below_drewN hba2 nq)) ?_
        rotate_left
        · intro w hSw
          try dsimp only at hSw
          go_simp
          try with_reducible rfl
        try simp only [Act.put, List.setIfInBounds_toArray, List.set_cons_zero, List.set_cons_succ]
        refine wpAnyH_done (by kernel_rfl) ?_ _
        go_wp2_with fail
        have hbf : Below w9.heap.size w9 ((w9.alloc (.cells #[.int .u64 y.g, .int .u64 y.n, .int .u8 y.p, .bool false, .slice cA y.d.length cc] 35)).drewN (1 + nq)) := below_drewN ((Below.refl _ _).alloc (Nat.le_refl _) _) (1 + nq)
        go_roundg (m + 1 - (i + 1))
        case measure => omega
        case rel => exact ⟨i + 1, rfl, by omega, by go_num, rfl, hH.kept hbf, hv.below hbf, hP.same hbf, hQ.same hbf, hW.below hbf, hb.trans (hbf.mono hb.size)⟩
      · have hle : decide (a + (i : Int) ≤ a + (m : Int)) = false := decide_eq_false (by omega)
        have hlen : decide ((m : Int) + 1 ≤ (m : Int) + 1) = true := decide_eq_true (by omega)
        go_wp2_with fail
        go_ret
        exact ⟨rfl, hb⟩

end Go.Proofs.Ytiaabbflchdcbaa
