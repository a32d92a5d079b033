/-
  ShelfDrops: plain; the closure. No condition.
-/
import Derived.Test.YtiaabbflchdcbaaShlast
import Derived.Test.YtiaabbflchdcbaaShfew
import Derived.Test.YtiaabbflchdcbaaSrnw
import Derived.Lib.ConvBytes
import Derived.Laws.AppendOwn
namespace Go.Proofs.Ytiaabbflchdcbaa
open Go.RowKit
set_option linter.unusedVariables false
set_option linter.unusedSimpArgs false

theorem conv_run (b : UInt8) (W : World) : (convert 9 30 (.string ⟨#[b]⟩)).run Try.prog W = .ok (.slice (some ⟨W.heap.size, 0, none⟩) 1 (grownCap W 1 0 5)) (Lib.bytesWorld W 5 ⟨#[b]⟩) :=
  Lib.run_convert_string_bytes W 9 30 5 ⟨#[b]⟩ Try.underlying9 Try.underlying30 Try.underlying5
theorem conv_below (b : UInt8) (W : World) : Below W.heap.size W (Lib.bytesWorld W 5 ⟨#[b]⟩) :=
  ⟨rfl, rfl, rfl, by rw [Lib.bytesWorld_size]; omega, fun i hi => Lib.bytesWorld_at_old W 5 _ i hi⟩
theorem conv_rdf (b : UInt8) (W : World) : RdF (Lib.bytesWorld W 5 ⟨#[b]⟩) (.slice (some ⟨W.heap.size, 0, none⟩) 1 (grownCap W 1 0 5)) [(b.toNat : Int)] := by
  refine ⟨⟨_, _, rfl, grownCap_ge W 1 0 5, grownCap_le_maxLen W 1 0 5 (by decide), fun e => (by cases e), fun i hi => ⟨W.heap.size, 0, rfl, by rw [Lib.bytesWorld_size]; omega, fun j hj => ?_⟩⟩, fun a n c e => ?_⟩
  · have hi0 : i = 0 := by simp at hi; omega
    have hj0 : j = 0 := by omega
    subst hi0 hj0
    have := Lib.bytesWorld_cell W 5 ⟨#[b]⟩ 0 (by show 0 < 1; omega)
    simpa using this
  · simp only [Value.slice.injEq, Option.some.injEq] at e
    obtain ⟨rfl, _⟩ := e
    exact ⟨_, _, Lib.bytesWorld_at_new W 5 ⟨#[b]⟩⟩
/-- While objects of track P are put. -/
structure JD (s0 : PS) (P : List Int) (s : PS) (k : Nat) : Prop where
  ok : s.Ok 1048576
  us : s.used ≤ s0.used + 2116 * k
  fl : s.Z.filter (fun z => !decide (z.1.1 = P)) = s0.Z.filter (fun z => !decide (z.1.1 = P))
  al : (∀ z ∈ s0.Z, z.1.1 = P) → ∀ z ∈ s.Z, z.1.1 = P
theorem zadd_filter {P : List Int} {g c : Int} (Z : List (Lot × Int)) : (zadd Z (P, g) c).filter (fun z => !decide (z.1.1 = P)) = Z.filter (fun z => !decide (z.1.1 = P)) := by
  induction Z with
  | nil => simp [zadd]
  | cons a A ih =>
    rw [zadd]
    split
    · next h => rw [List.filter_cons, List.filter_cons]; simp [h]
    · rw [List.filter_cons, List.filter_cons, ih]
theorem JD.step {s0 s : PS} {P : List Int} {k : Nat} {l : List Int} {g n p : Int} {d : List Int} (h : JD s0 P s k) (hk : k ≤ 12) (h0 : s0.used ≤ 500000) (hd : d.length ≤ 2100) (hP : padT l = P) : JD s0 P (pput 1048576 s l g n p d).2 (k + 1) := by
  have hok := pput_okP (l := l) (g := g) (n := n) (p := p) (d := d) h.ok
  have hus := h.us
  by_cases h1 : nameE l = 0
  · by_cases h2 : ∃ y ∈ s.E, y.is (padT l) g n
    · have e1 : pput 1048576 s l g n p d = (7, s) := by unfold pput; rw [if_neg (by simpa using h1), if_pos h2]
      rw [e1]; exact ⟨h.ok, by push_cast; omega, h.fl, h.al⟩
    · have hz := (h.ok.le (padT l, g)).2
      rw [pput_in h1 h2 (by omega)] at hok ⊢
      have he : ∀ k, pevict (padT l, g) ((d.length : Int) + 16) 1048576 k s = s := fun k => by
        cases k with
        | zero => rfl
        | succ k => rw [pevict, if_pos (by omega)]
      rw [he] at hok ⊢
      refine ⟨hok, by show s.used + _ ≤ _; push_cast; omega, ?_, fun ha z hz => ?_⟩
      · show (zadd s.Z (padT l, g) _).filter _ = _
        rw [hP, zadd_filter]; exact h.fl
      · rcases zadd_mem hz with hz | rfl | ⟨v, hz, rfl⟩
        · exact h.al ha z hz
        · exact hP
        · exact hP
  · have e1 : pput 1048576 s l g n p d = (nameE l, s) := by unfold pput; rw [if_pos h1]
    rw [e1]; exact ⟨h.ok, by push_cast; omega, h.fl, h.al⟩
theorem JD.start {s0 : PS} (P : List Int) (h : s0.Ok 1048576) : JD s0 P s0 0 := ⟨h, by omega, rfl, id⟩
theorem JD.mono {s0 s : PS} {P : List Int} {k m : Nat} (h : JD s0 P s k) (hk : k ≤ m) : JD s0 P s m := by
  have h1 := h.us
  exact ⟨h.ok, by omega, h.fl, h.al⟩
set_option maxHeartbeats 4000000 in
set_option maxRecDepth 100000 in
theorem dput_any (b : UInt8) (P : List Int) (hP : padT [(b.toNat : Int)] = P) (A : Option Addr) (N cap B sb lb zb tb vb : Nat) (s0 : PS) (w0 w : World) (hNc : N ≤ cap) (hcm : cap ≤ maxLen) (hO : Obs w0 A N) (hwB : w0.heap.size ≤ B) (hb : Below w0.heap.size w0 w) (hH : HS w B sb lb zb tb 1048576 s0) (hok : s0.Ok 1048576) (hs0 : s0.used ≤ 500000) (hvb : Blk w vb 25 #[.pointer (some ⟨sb, 0, none⟩)]) :
    Calls Try.prog 18 #[.string ⟨#[b]⟩, .slice A N cap, .pointer (some ⟨vb, 0, none⟩)] w fun e w' => e = .returned (.tuple #[]) ∧ ∃ s', HS w' B sb lb zb tb 1048576 s' ∧ JD s0 P s' 12 ∧ KX lb zb tb w w' ∧ Below w0.heap.size w0 w' := by
  have hNm : N ≤ 9223372036854775807 := by unfold maxLen at hcm; omega
  have HO := Lib.hid hO
  have hbk : BytesOk [(b.toNat : Int)] := fun x hx => by simp only [List.mem_singleton] at hx; have := b.toNat_lt; omega
  have HBK := Lib.hid hbk
  clear hO hbk
  have hJ0 := JD.start P hok
  clear hok
  go_enter Try.func18, Try.ntmps18
  go_wp2_with fail
  go_loopg [9] N (fun gk s9 wr => ∃ (i : Nat) (s : PS), gk = N - i ∧ i ≤ N ∧ s9 = .int .i64 i ∧ HS wr B sb lb zb tb 1048576 s ∧ JD s0 P s (min i 12) ∧ Blk wr vb 25 #[.pointer (some ⟨sb, 0, none⟩)] ∧ KX lb zb tb w wr ∧ Below w0.heap.size w0 wr)
  case atStart => exact ⟨0, s0, rfl, Nat.zero_le _, rfl, hH, by rw [Nat.zero_min]; exact hJ0, hvb, KX.of (Below.refl _ _), hb⟩
  case round =>
    clear hH hJ0 hvb hb
    obtain ⟨i, s, hgk, hiN, rfl, hH, hJ, hvb, hx, hb0⟩ := hrel
    by_cases hlt : i < N
    · obtain ⟨bb, off, g, n, p, gr, V, l, rfl, hbl, hc, ⟨hg, hn, hp⟩, hV, hK⟩ := HO.out i hlt
      have c0 : World.cell? wr ⟨bb, off + i * 5, none⟩ = some (.int .u64 g) := (hb0.cell (p := ⟨bb, off + i * 5, none⟩) hbl).trans (hc 0 (by omega))
      have c1 : World.cell? wr ⟨bb, off + i * 5 + 1, none⟩ = some (.int .u64 n) := (hb0.cell (p := ⟨bb, off + i * 5 + 1, none⟩) hbl).trans (hc 1 (by omega))
      have c2 : World.cell? wr ⟨bb, off + i * 5 + 2, none⟩ = some (.int .u8 p) := (hb0.cell (p := ⟨bb, off + i * 5 + 2, none⟩) hbl).trans (hc 2 (by omega))
      have c3 : World.cell? wr ⟨bb, off + i * 5 + 3, none⟩ = some (.bool gr) := (hb0.cell (p := ⟨bb, off + i * 5 + 3, none⟩) hbl).trans (hc 3 (by omega))
      have hV1 := hV.below hb0
      obtain ⟨VA, Vc, rfl⟩ := hV.form
      have c4 : World.cell? wr ⟨bb, off + i * 5 + 4, none⟩ = some (.slice VA l.length Vc) := (hb0.cell (p := ⟨bb, off + i * 5 + 4, none⟩) hbl).trans (hc 4 (by omega))
      clear hc hV
      have hba : Below wr.heap.size wr (wr.alloc (.cells #[.int .u64 g, .int .u64 n, .int .u8 p, .bool gr, (.slice VA l.length Vc)] 35)) := (Below.refl _ _).alloc (Nat.le_refl _) _
      by_cases h12 : i < 12
      · have hd12 : decide ((i : Int) < 12) = true := decide_eq_true (by omega)
        rw [Nat.min_eq_left (by omega)] at hJ
        go_upto_region 4 with fail
        refine wp_world (fun wz => HS wz B sb lb zb tb 1048576 s ∧ Blk wz vb 25 #[.pointer (some ⟨sb, 0, none⟩)] ∧ Blk wz wr.heap.size 35 #[.int .u64 g, .int .u64 n, .int .u8 p, .bool gr, (.slice VA l.length Vc)] ∧ Rd wz .u8 (.slice VA l.length Vc) l ∧ KX lb zb tb w wz ∧ Below w0.heap.size w0 wz) ⟨hH.kept hba, hvb.same hba, Blk.new wr 35 #[.int .u64 g, .int .u64 n, .int .u8 p, .bool gr, (.slice VA l.length Vc)], hV1.below hba, hx.trans (KX.of hba), hb0.trans (hba.mono hb0.size)⟩ ?_
        obtain ⟨ob, hob⟩ : ∃ ob, ob = wr.heap.size := ⟨_, rfl⟩
        rw [← hob]
        clear hH hvb hV1 hx hb0 hba hob c0 c1 c2 c3 c4 hbl
        rintro w6 ⟨hH6, hvb6, hOb, hV6, hx, hb0⟩
        obtain ⟨d, hd⟩ : ∃ d, d = l.take 2100 := ⟨_, rfl⟩
        obtain ⟨hdk, hdl⟩ := take_ok hK hd
        have HD := Lib.hid hd
        have HDK := Lib.hid hdk
        clear hd hdk
        have hk12 : i ≤ 12 := by omega
        have hH6' := hH6
        have hHd : HS w6.drew B sb lb zb tb 1048576 s := hH6.kept (below_drewN (Below.refl _ _) 1)
        have HVd : Hid (Rd w6.drew .u8 (.slice VA l.length Vc) l) := Lib.hid hV6
        have v0 : World.cell? w6.drew ⟨vb, 0, none⟩ = some (.pointer (some ⟨sb, 0, none⟩)) := hvb6.cell 0
        have y0 : World.cell? w6.drew ⟨ob, 0, none⟩ = some (.int .u64 g) := hOb.cell 0
        have y1 : World.cell? w6.drew ⟨ob, 1, none⟩ = some (.int .u64 n) := hOb.cell 1
        have y2 : World.cell? w6.drew ⟨ob, 2, none⟩ = some (.int .u8 p) := hOb.cell 2
        have y3 : World.cell? w6.drew ⟨ob, 3, none⟩ = some (.bool gr) := hOb.cell 3
        have y4 : World.cell? w6.drew ⟨ob, 4, none⟩ = some (.slice VA l.length Vc) := hOb.cell 4
        have HKS : Hid (∀ W, Below w6.drew.heap.size w6.drew W → World.cell? W ⟨vb, 0, none⟩ = some (.pointer (some ⟨sb, 0, none⟩)) ∧ World.cell? W ⟨ob, 0, none⟩ = some (.int .u64 g) ∧ World.cell? W ⟨ob, 1, none⟩ = some (.int .u64 n) ∧ World.cell? W ⟨ob, 2, none⟩ = some (.int .u8 p) ∧ World.cell? W ⟨ob, 3, none⟩ = some (.bool gr) ∧ World.cell? W ⟨ob, 4, none⟩ = some (.slice VA l.length Vc)) := Lib.hid (fun W hW => by
          have h1 := Blk.same (show Blk w6.drew vb 25 _ from hvb6) hW
          have h2 := Blk.same (show Blk w6.drew ob 35 _ from hOb) hW
          exact ⟨h1.cell 0, h2.cell 0, h2.cell 1, h2.cell 2, h2.cell 3, h2.cell 4⟩)
        have HKP8 : Hid (∀ W, KX lb zb tb w6.drew W → World.cell? W ⟨vb, 0, none⟩ = some (.pointer (some ⟨sb, 0, none⟩)) ∧ World.cell? W ⟨ob, 0, none⟩ = some (.int .u64 g) ∧ World.cell? W ⟨ob, 1, none⟩ = some (.int .u64 n) ∧ World.cell? W ⟨ob, 2, none⟩ = some (.int .u8 p) ∧ World.cell? W ⟨ob, 3, none⟩ = some (.bool gr) ∧ World.cell? W ⟨ob, 4, none⟩ = some (.slice VA l.length Vc)) := Lib.hid (fun W hW => by
          have h1 := Blk.kx (show Blk w6.drew vb 25 _ from hvb6) hHd hW (by decide) (by decide)
          have h2 := Blk.kx (show Blk w6.drew ob 35 _ from hOb) hHd hW (by decide) (by decide)
          exact ⟨h1.cell 0, h2.cell 0, h2.cell 1, h2.cell 2, h2.cell 3, h2.cell 4⟩)
        have hbk := HBK.out
        have hcv := conv_run b
        refine wp_region_held_drew (S := fun W => World.cell? W ⟨vb, 0, none⟩ = some (.pointer (some ⟨sb, 0, none⟩)) ∧ World.cell? W ⟨ob, 0, none⟩ = some (.int .u64 g) ∧ World.cell? W ⟨ob, 1, none⟩ = some (.int .u64 n) ∧ World.cell? W ⟨ob, 2, none⟩ = some (.int .u8 p) ∧ World.cell? W ⟨ob, 3, none⟩ = some (.bool gr) ∧ World.cell? W ⟨ob, 4, none⟩ = some (.slice VA l.length Vc)) (by kernel_rfl) (by first | with_reducible exact ⟨v0, y0, y1, y2, y3, y4⟩ | with_reducible exact HKS.out _ HA2 | with_reducible exact HKS.out _ hb7 | exact HKS.out _ (HA2.trans (hb7.mono HA2.size)) | exact HKS.out _ (hb7.trans (HA2.mono hb7.size)) | exact HKP8.out _ hx08) (fun _ => ?_)
        refine wpAnyH_take (i := 0) (oi := ({ dst := some 16, op := Op.load 25 (Operand.tmp 2), type := 25, pos := _, after := #[], guard := none } : Oper)) (v := ?_) rfl (by kernel_rfl) (by kernel_rfl) (by kernel_rfl) (fun _ _ _ h => h) (Or.inl ⟨by rfl, ?_⟩) (by first | with_reducible exact ⟨v0, y0, y1, y2, y3, y4⟩ | with_reducible exact HKS.out _ HA2 | with_reducible exact HKS.out _ hb7 | exact HKS.out _ (HA2.trans (hb7.mono HA2.size)) | exact HKS.out _ (hb7.trans (HA2.mono hb7.size)) | exact HKP8.out _ hx08) ?_
        rotate_left
        · intro w hSw
          try dsimp only at hSw
          go_simp
          try with_reducible rfl
        try simp only [Act.put, List.setIfInBounds_toArray, List.set_cons_zero, List.set_cons_succ]
        refine wpAnyH_take (i := 1) (oi := ({ dst := some 17, op := Op.move (Operand.tmp 0), type := 9, pos := _, after := #[], guard := none } : Oper)) (v := ?_) rfl (by kernel_rfl) (by kernel_rfl) (by kernel_rfl) (fun _ _ _ h => h) (Or.inl ⟨by rfl, ?_⟩) (by first | with_reducible exact ⟨v0, y0, y1, y2, y3, y4⟩ | with_reducible exact HKS.out _ HA2 | with_reducible exact HKS.out _ hb7 | exact HKS.out _ (HA2.trans (hb7.mono HA2.size)) | exact HKS.out _ (hb7.trans (HA2.mono hb7.size)) | exact HKP8.out _ hx08) ?_
        rotate_left
        · intro w hSw
          try dsimp only at hSw
          go_simp
          try with_reducible rfl
        try simp only [Act.put, List.setIfInBounds_toArray, List.set_cons_zero, List.set_cons_succ]
        refine wpAnyH_take (i := 3) (oi := ({ dst := some 19, op := Op.load 35 (Operand.tmp 6), type := 35, pos := _, after := #[], guard := none } : Oper)) (v := ?_) rfl (by kernel_rfl) (by kernel_rfl) (by kernel_rfl) (fun _ _ _ h => h) (Or.inl ⟨by rfl, ?_⟩) (by first | with_reducible exact ⟨v0, y0, y1, y2, y3, y4⟩ | with_reducible exact HKS.out _ HA2 | with_reducible exact HKS.out _ hb7 | exact HKS.out _ (HA2.trans (hb7.mono HA2.size)) | exact HKS.out _ (hb7.trans (HA2.mono hb7.size)) | exact HKP8.out _ hx08) ?_
        rotate_left
        · intro w hSw
          try dsimp only at hSw
          go_simp
          try with_reducible rfl
        try simp only [Act.put, List.setIfInBounds_toArray, List.set_cons_zero, List.set_cons_succ]
        refine wpAnyH_ready (rs := [2, 4]) (by kernel_rfl) (by simp) ?_
        refine (AllReadyH.cons (o := ({ dst := some 18, op := Op.convert 9 30 (Operand.tmp 17), type := 30, pos := _, after := #[{ on := 1, ground := Ground.data }], guard := none } : Oper)) rfl (fun K hK => ?_) (AllReadyH.cons (o := ({ dst := some 20, op := Op.call { callee := Callee.value (Operand.func 11), args := #[Operand.tmp 19], argTypes := #[35] }, type := 35, pos := _, after := #[{ on := 3, ground := Ground.data }], guard := none } : Oper)) rfl (fun K hK => ?_) AllReadyH.nil))
        · go_simp
          have HA2 := conv_below b w6.drew
          have HV2 := conv_rdf b w6.drew
          refine hK.out _ _ (by first | with_reducible exact ⟨v0, y0, y1, y2, y3, y4⟩ | with_reducible exact HKS.out _ HA2 | with_reducible exact HKS.out _ hb7 | exact HKS.out _ (HA2.trans (hb7.mono HA2.size)) | exact HKS.out _ (hb7.trans (HA2.mono hb7.size)) | exact HKP8.out _ hx08) (fun _ => ?_)
          clear hK K
          try simp only [Act.put, List.setIfInBounds_toArray, List.set_cons_zero, List.set_cons_succ]
          refine wpAnyH_ready (rs := [4]) (by kernel_rfl) (by simp) ?_
          refine (AllReadyH.cons (o := ({ dst := some 20, op := Op.call { callee := Callee.value (Operand.func 11), args := #[Operand.tmp 19], argTypes := #[35] }, type := 35, pos := _, after := #[{ on := 3, ground := Ground.data }], guard := none } : Oper)) rfl (fun K hK => ?_) AllReadyH.nil)
          go_simp
          go_at_call 11
          (with_reducible refine (few_d g n p gr (.slice VA l.length Vc) l d HD.out (Lib.bytesWorld w6.drew 5 ⟨#[b]⟩) (HVd.out.below HA2)).mono ?_)
          rintro e w7 ⟨dA, dc, rfl, ho7, hb7⟩
          refine hK.out _ _ (by first | with_reducible exact ⟨v0, y0, y1, y2, y3, y4⟩ | with_reducible exact HKS.out _ HA2 | with_reducible exact HKS.out _ hb7 | exact HKS.out _ (HA2.trans (hb7.mono HA2.size)) | exact HKS.out _ (hb7.trans (HA2.mono hb7.size)) | exact HKP8.out _ hx08) (fun _ => ?_)
          clear hK K
          try simp only [Act.put, List.setIfInBounds_toArray, List.set_cons_zero, List.set_cons_succ]
          refine wpAnyH_ready (rs := [5]) (by kernel_rfl) (by simp) ?_
          refine (AllReadyH.cons (o := ({ dst := some 21, op := Op.call { callee := Callee.value (Operand.func 12), args := #[Operand.tmp 16, Operand.tmp 18, Operand.tmp 20], argTypes := #[25, 30, 35] }, type := 26, pos := _, after := #[{ on := 0, ground := Ground.data }, { on := 2, ground := Ground.data }, { on := 4, ground := Ground.data }, { on := 4, ground := Ground.chain }], guard := none } : Oper)) rfl (fun K hK => ?_) AllReadyH.nil)
          go_simp
          have hb57 : Below w6.drew.heap.size w6.drew w7 := HA2.trans (hb7.mono HA2.size)
          have hvP : Rd w7 .u8 (.slice (some ⟨w6.heap.size, 0, none⟩) 1 (grownCap w6.drew 1 0 5)) _ := (HV2.below hb7).1
          have hdP := rdt_of_own ho7
          have hHP := hHd.kept hb57
          have hput := put_any B sb lb zb tb _ 1048576 g n p gr dA dc [(b.toNat : Int)] d s w7 hHP hJ.ok (by omega) hvP hbk (by simp) hdP HDK.out (by omega) hg hn hp
          have hJ2 := hJ.step (l := [(b.toNat : Int)]) (g := g) (n := n) (p := p) (d := d) hk12 hs0 hdl hP
          obtain ⟨pr, hpr⟩ : ∃ pr, pr = pput 1048576 s [(b.toNat : Int)] g n p d := ⟨_, rfl⟩
          rw [← hpr] at hput hJ2
          clear hpr
          go_at_call 12
          (with_reducible refine hput.mono ?_)
          clear hput
          rintro e w8 ⟨rfl, hH8, hx8, hb8⟩
          have hx08 := (KX.of (lb := lb) (zb := zb) (tb := tb) hb57).trans hx8
          refine hK.out _ _ (by first | with_reducible exact ⟨v0, y0, y1, y2, y3, y4⟩ | with_reducible exact HKS.out _ HA2 | with_reducible exact HKS.out _ hb7 | exact HKS.out _ (HA2.trans (hb7.mono HA2.size)) | exact HKS.out _ (hb7.trans (HA2.mono hb7.size)) | exact HKP8.out _ hx08) (fun _ => ?_)
          clear hK K
          try simp only [Act.put, List.setIfInBounds_toArray, List.set_cons_zero, List.set_cons_succ]
          refine wpAnyH_done (by kernel_rfl) ?_ _
          go_wp2_with fail
          go_roundg (N - (i + 1))
          case measure => omega
          case rel => exact ⟨i + 1, pr.2, rfl, by omega, by go_num, hH8, by rw [Nat.min_eq_left (by omega)]; exact hJ2, hvb6.kx hH6' hx08 (by decide) (by decide), hx.trans hx08, hb0.trans (((below_drewN (Below.refl w6.heap.size w6) 1).trans hb57).mono hb0.size |>.trans (hb8.mono hwB))⟩
        · go_simp
          go_at_call 11
          (with_reducible refine (few_d g n p gr (.slice VA l.length Vc) l d HD.out w6.drew HVd.out).mono ?_)
          rintro e w7 ⟨dA, dc, rfl, ho7, hb7⟩
          refine hK.out _ _ (by first | with_reducible exact ⟨v0, y0, y1, y2, y3, y4⟩ | with_reducible exact HKS.out _ HA2 | with_reducible exact HKS.out _ hb7 | exact HKS.out _ (HA2.trans (hb7.mono HA2.size)) | exact HKS.out _ (hb7.trans (HA2.mono hb7.size)) | exact HKP8.out _ hx08) (fun _ => ?_)
          clear hK K
          try simp only [Act.put, List.setIfInBounds_toArray, List.set_cons_zero, List.set_cons_succ]
          refine wpAnyH_ready (rs := [2]) (by kernel_rfl) (by simp) ?_
          refine (AllReadyH.cons (o := ({ dst := some 18, op := Op.convert 9 30 (Operand.tmp 17), type := 30, pos := _, after := #[{ on := 1, ground := Ground.data }], guard := none } : Oper)) rfl (fun K hK => ?_) AllReadyH.nil)
          go_simp
          have HA2 := conv_below b w7
          have HV2 := conv_rdf b w7
          refine hK.out _ _ (by first | with_reducible exact ⟨v0, y0, y1, y2, y3, y4⟩ | with_reducible exact HKS.out _ HA2 | with_reducible exact HKS.out _ hb7 | exact HKS.out _ (HA2.trans (hb7.mono HA2.size)) | exact HKS.out _ (hb7.trans (HA2.mono hb7.size)) | exact HKP8.out _ hx08) (fun _ => ?_)
          clear hK K
          try simp only [Act.put, List.setIfInBounds_toArray, List.set_cons_zero, List.set_cons_succ]
          refine wpAnyH_ready (rs := [5]) (by kernel_rfl) (by simp) ?_
          refine (AllReadyH.cons (o := ({ dst := some 21, op := Op.call { callee := Callee.value (Operand.func 12), args := #[Operand.tmp 16, Operand.tmp 18, Operand.tmp 20], argTypes := #[25, 30, 35] }, type := 26, pos := _, after := #[{ on := 0, ground := Ground.data }, { on := 2, ground := Ground.data }, { on := 4, ground := Ground.data }, { on := 4, ground := Ground.chain }], guard := none } : Oper)) rfl (fun K hK => ?_) AllReadyH.nil)
          go_simp
          have hb57 : Below w6.drew.heap.size w6.drew (Lib.bytesWorld w7 5 ⟨#[b]⟩) := hb7.trans (HA2.mono hb7.size)
          have hvP : Rd (Lib.bytesWorld w7 5 ⟨#[b]⟩) .u8 _ _ := HV2.1
          have hdP := (rdt_of_own ho7).below HA2
          have hHP := hHd.kept hb57
          have hput := put_any B sb lb zb tb _ 1048576 g n p gr dA dc [(b.toNat : Int)] d s (Lib.bytesWorld w7 5 ⟨#[b]⟩) hHP hJ.ok (by omega) hvP hbk (by simp) hdP HDK.out (by omega) hg hn hp
          have hJ2 := hJ.step (l := [(b.toNat : Int)]) (g := g) (n := n) (p := p) (d := d) hk12 hs0 hdl hP
          obtain ⟨pr, hpr⟩ : ∃ pr, pr = pput 1048576 s [(b.toNat : Int)] g n p d := ⟨_, rfl⟩
          rw [← hpr] at hput hJ2
          clear hpr
          go_at_call 12
          (with_reducible refine hput.mono ?_)
          clear hput
          rintro e w8 ⟨rfl, hH8, hx8, hb8⟩
          have hx08 := (KX.of (lb := lb) (zb := zb) (tb := tb) hb57).trans hx8
          refine hK.out _ _ (by first | with_reducible exact ⟨v0, y0, y1, y2, y3, y4⟩ | with_reducible exact HKS.out _ HA2 | with_reducible exact HKS.out _ hb7 | exact HKS.out _ (HA2.trans (hb7.mono HA2.size)) | exact HKS.out _ (hb7.trans (HA2.mono hb7.size)) | exact HKP8.out _ hx08) (fun _ => ?_)
          clear hK K
          try simp only [Act.put, List.setIfInBounds_toArray, List.set_cons_zero, List.set_cons_succ]
          refine wpAnyH_done (by kernel_rfl) ?_ _
          go_wp2_with fail
          go_roundg (N - (i + 1))
          case measure => omega
          case rel => exact ⟨i + 1, pr.2, rfl, by omega, by go_num, hH8, by rw [Nat.min_eq_left (by omega)]; exact hJ2, hvb6.kx hH6' hx08 (by decide) (by decide), hx.trans hx08, hb0.trans (((below_drewN (Below.refl w6.heap.size w6) 1).trans hb57).mono hb0.size |>.trans (hb8.mono hwB))⟩
      · have hd12 : decide ((i : Int) < 12) = false := decide_eq_false (by omega)
        go_wp2_with fail
        go_roundg (N - (i + 1))
        case measure => omega
        case rel => exact ⟨i + 1, s, rfl, by omega, by go_num, hH.kept hba, by rw [Nat.min_eq_right (by omega)] at hJ ⊢; exact hJ, hvb.same hba, hx.trans (KX.of hba), hb0.trans (hba.mono hb0.size)⟩
    · go_wp2_with fail
      (first | go_end0 | ((try simp only [Exit.inBlock, Exit.then]); refine bodyPost_ret (results_none rfl _ _ _) rfl ?_))
      exact ⟨rfl, s, hH, hJ.mono (Nat.min_le_right _ _), hx, hb0⟩

end Go.Proofs.Ytiaabbflchdcbaa
