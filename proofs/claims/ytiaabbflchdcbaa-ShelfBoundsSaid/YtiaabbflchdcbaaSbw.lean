/-
  ShelfBounds: the walk. No condition.
-/
import Derived.Test.YtiaabbflchdcbaaSbm
namespace Go.Proofs.Ytiaabbflchdcbaa
open Go.RowKit
set_option linter.unusedVariables false
set_option linter.unusedSimpArgs false

theorem cut40 (v : Value) (l d : List Int) (hd : d = l.take 40) (w : World) (ha : Rd w .u8 v l) : Calls Try.prog 10 #[v, .int .i64 40] w fun e w' => ∃ A c, e = .returned (.slice A d.length c) ∧ w'.ownsRow w.heap.size 5 1 (.slice A d.length c) d.length (d.map (Value.int .u8)) ∧ Below w.heap.size w w' := by
  subst hd
  refine (show Calls Try.prog 10 #[v, .int .i64 40] w _ from cut_any v l 40 w ha (by omega)).mono ?_
  rintro e w' ⟨v', rfl, ho, hb⟩
  obtain ⟨A, c, rfl, _⟩ := sl_of_own ho
  exact ⟨A, c, rfl, ho, hb⟩
theorem take40_ok {l d : List Int} (hk : BytesOk l) (hd : d = l.take 40) : BytesOk d ∧ d.length ≤ 40 := by
  subst hd
  exact ⟨fun x hx => hk x (List.mem_of_mem_take hx), by simp; omega⟩
theorem pput_same {room g n p : Int} {s : PS} {l d : List Int} (h : (pput room s l g n p d).1 ≠ 0) : (pput room s l g n p d).2 = s := by
  unfold pput at h ⊢
  split
  · rfl
  · next h1 =>
    rw [if_neg h1] at h
    split
    · rfl
    · next h2 =>
      rw [if_neg h2] at h
      split
      · rfl
      · next h3 => rw [if_neg h3] at h; exact absurd rfl h
theorem RdF.pre {w : World} {A : Option Addr} {n cap m : Nat} {l : List Int} (h : RdF w (.slice A n cap) l) (hm : m ≤ l.length) : RdF w (.slice A m cap) (l.take m) :=
  ⟨h.1.pre hm, fun a n' c e => by
    simp only [Value.slice.injEq] at e
    obtain ⟨rfl, _⟩ := e
    exact h.2 a n cap rfl⟩
theorem step_store_row {P : Program} {w : World} {ops : Array Oper} {o : Oper} {a : Act} {K : Act → World → Prop} {Q : Exit → Act → World → Prop} {E : Prop} (hgd : o.guard = none) (ty : TypeId) (x y : Operand) (ho : o.op = .store ty x y)
    (g : Nat) (cells : Array Value) (hx : a.eval x = .pointer (some ⟨g, 0, none⟩)) (hy : a.eval y = .agg cells)
    (t : TypeId) (old : Array Value) (hg : w.heap[g]? = some (.cells old t (0, 0))) (hi : (P.info? ty).map (·.size) = some cells.size)
    (hold : old.size = cells.size) (h1 : cells.all (·.oneCell') = true)
    (h : K (a.put o.dst undef) (w.setRow g cells)) : if Region.wanted o (yielded ops a.tmps) = true then Oper.wp P o a w K Q else E := by
  have hw : Region.wanted o (yielded ops a.tmps) = true := by simp [Region.wanted, hgd]
  rw [if_pos hw]
  exact wp_store_row ty x y ho g cells hx hy t old hg hi hold h1 h
theorem own_lt {w : World} {base n size : Nat} {e : TypeId} {v : Value} {xs : List Value} {b : Nat} (h : w.ownsRow base e size v n xs) (hb : v.ownBlock = some b) : b < w.heap.size := by
  rcases h.2 with ⟨rfl, _⟩ | ⟨g', cap, cur, rfl, _, hh, _⟩
  · simp [Value.ownBlock] at hb
  · simp only [Value.ownBlock, Option.some.injEq] at hb
    subst hb
    exact (Array.getElem?_eq_some_iff.1 hh).1
theorem PM.blk {w : World} {pm B k : Nat} {ML : List MR} {t : TypeId} {cs : Array Value} (h : PM w pm B ML) (hg : Blk w k t cs) (h5 : t ≠ 5) (hne : ∀ m ∈ ML, m.v.ownBlock ≠ some k) (i : Nat) (u : Value) : PM (w.setCell ⟨k, i, none⟩ u) pm B ML :=
  ⟨h.km.set_ hg i u, fun m hm => ⟨⟨own_far (h.row m hm).1.row (hne m hm) u, fun y hy => rdt_set ((h.row m hm).1.dat y hy) hg h5 i u⟩, (h.row m hm).2⟩, h.ap⟩
theorem pw_ins {α : Type} {R : α → α → Prop} (hR : ∀ a b, R a b → R b a) {A C : List α} {x : α} (h : (A ++ C).Pairwise R) (hx : ∀ z ∈ A ++ C, R z x) : (A ++ x :: C).Pairwise R := by
  rw [List.pairwise_append] at h ⊢
  refine ⟨h.1, List.pairwise_cons.2 ⟨fun z hz => hR _ _ (hx z (List.mem_append_right _ hz)), h.2.1⟩, fun a ha b hb => ?_⟩
  rcases List.mem_cons.1 hb with rfl | hb
  · exact hx a (List.mem_append_left _ ha)
  · exact h.2.2 a ha b hb
def MLen (i : Nat) (ML : List MR) : Prop := ∀ m ∈ ML, m.r.L.length ≤ i
set_option maxHeartbeats 4000000 in
set_option maxRecDepth 100000 in
theorem bounds_walk (r0 : Int) (A : Option Addr) (N cap : Nat) (w : World) (hr0 : 0 ≤ r0 ∧ r0 ≤ 65535) (hnc : N ≤ cap) (hcm : cap ≤ maxLen) (hO : Ops w A N) :
    Calls Try.prog 3 #[.int .u16 r0, .slice A N cap] w fun e w' => e = .returned (.bool true) ∧ Below w.heap.size w w' := by
  have hNm : N ≤ 9223372036854775807 := by unfold maxLen at hcm; omega
  have HO := Lib.hid hO
  clear hO
  have haw := awake_any w
  have hmk : ∀ (t : TypeId) (W : World), (Instr.makeMap t none).run Try.prog W = .ok (.map (some W.heap.size)) (W.alloc (.map #[] 0)) := fun t W => rfl
  go_enter Try.func3, Try.ntmps3
  go_upto_region 4 with (first | (go_at_call 8; (with_reducible refine haw.mono ?_); rintro e w1 ⟨rfl, hb1⟩) | fail)
  clear haw
  generalize hrr : 1 + r0 % 2000 = r
  have hrb : 1 ≤ r ∧ r ≤ 2000 := by omega
  clear hrr
  have hnew := new_ok r w1 (by omega) (by omega)
  go_upto_region 5 with (first | (go_at_call 9; (with_reducible refine hnew.mono ?_); rintro e w2 ⟨sb, lb, zb, tb, rfl, hH, hb2⟩) | fail)
  clear hnew
  obtain ⟨B, hB⟩ : ∃ B, B = w1.heap.size := ⟨_, rfl⟩
  rw [← hB] at hH hb2
  have hwB : w.heap.size ≤ B := by rw [hB]; exact hb1.size
  have hb := hb1.trans (hb2.mono hwB)
  clear hb1 hb2 hB
  have hpmx : w2.heap.size ≠ lb ∧ w2.heap.size ≠ zb ∧ w2.heap.size ≠ tb := by
    obtain ⟨lv, E, _, hS⟩ := hH
    exact ⟨fun e => by have := hS.kl.lt; omega, fun e => by have := hS.kz.lt; omega, fun e => by have := hS.kt.lt; omega⟩
  have hba : Below w2.heap.size w2 (w2.alloc (.map #[] 0)) := (Below.refl _ _).alloc (Nat.le_refl _) _
  go_upto_region 6 with fail
  refine wp_world (fun wz => HS wz B sb lb zb tb r PS.empty ∧ PM wz w2.heap.size w.heap.size [] ∧ Below w.heap.size w wz) ⟨hH.kept hba, PM.nil w2 _, hb.trans (hba.mono hb.size)⟩ ?_
  obtain ⟨pm, hpm⟩ : ∃ pm, pm = w2.heap.size := ⟨_, rfl⟩
  have HPB : Hid (w.heap.size ≤ pm) := Lib.hid (by rw [hpm]; exact hb.size)
  rw [← hpm] at hpmx ⊢
  have HPX := Lib.hid hpmx
  clear hH hb hba hpm hpmx hmk
  rintro w3 ⟨hH, hM, hb⟩
  have hok0 : PS.empty.Ok r := PS.empty_ok (by omega)
  go_wp2_with fail
  go_loopg [37] N (fun gk s37 wr => ∃ (i : Nat) (s : PS) (ML : List MR), gk = N - i ∧ i ≤ N ∧ s37 = .int .i64 i ∧ HS wr B sb lb zb tb r s ∧ s.Ok r ∧ PM wr pm w.heap.size ML ∧ MOk s ML ∧ MLen i ML ∧ i ≤ 50 ∧ Below w.heap.size w wr)
  case atStart => exact ⟨0, _, [], rfl, Nat.zero_le _, rfl, hH, hok0, hM, (fun m hm => by cases hm), (fun m hm => by cases hm), by omega, hb⟩
  case round =>
    clear hH hok0 hM hb
    obtain ⟨i, s, ML, hgk, hiN, rfl, hH, hok, hM, hMO, hML, hi50, hb⟩ := hrel
    have HMO := Lib.hid hMO
    have HML := Lib.hid hML
    clear hMO hML
    by_cases hlt : i < N
    · obtain ⟨b, off, o, g, n, p, gr, tV, V, tl, l, tg, tn, rfl, hbl, hc, _, ⟨hg, hn, hp⟩, hV, hK, hT, hTK, _, _⟩ := HO.out i hlt
      have hrg : wr.rangeAt b (off + i * 9) [.int .u8 o, tV, .int .u64 g, .int .u64 n, .int .u8 p, .bool gr, V, .int .u64 tg, .int .u64 tn] := fun j v hv => by
        have hj : j < 9 := (List.getElem?_eq_some_iff.1 hv).1
        rw [Nat.add_assoc]
        exact ((hb.cell (p := ⟨b, off + (i * 9 + j), none⟩) hbl).trans (hc j hj)).trans hv
      have HRG := Lib.hid hrg
      have hV1 : Rd wr .u8 V l := hV.below hb
      have hT1 : Rd wr .u8 tV tl := hT.below hb
      obtain ⟨VA, Vc, rfl⟩ := hV.form
      obtain ⟨TA, Tc, rfl⟩ := hT.form
      clear hrg hc hV hT hbl
      have hone : (#[.int .u8 o, (.slice TA tl.length Tc), .int .u64 g, .int .u64 n, .int .u8 p, .bool gr, (.slice VA l.length Vc), .int .u64 tg, .int .u64 tn] : Array Value).all (·.oneCell') = true := by simp [Value.oneCell']
      have hba : Below wr.heap.size wr (wr.alloc (.cells #[.int .u8 o, (.slice TA tl.length Tc), .int .u64 g, .int .u64 n, .int .u8 p, .bool gr, (.slice VA l.length Vc), .int .u64 tg, .int .u64 tn] 37)) := (Below.refl _ _).alloc (Nat.le_refl _) _
      go_upto_region 9 with (first | (refine wpList_load_mid rfl 37 (.tmp 40) rfl b (off + i * 9) rfl [.int .u8 o, (.slice TA tl.length Tc), .int .u64 g, .int .u64 n, .int .u8 p, .bool gr, (.slice VA l.length Vc), .int .u64 tg, .int .u64 tn] _ HRG.out Try.underlying37 rfl (by rw [infoOP]; rfl) ?_) | (refine wpList_store_new rfl 37 (.tmp 10) (.tmp 41) rfl 37 _ #[.int .u8 o, (.slice TA tl.length Tc), .int .u64 g, .int .u64 n, .int .u8 p, .bool gr, (.slice VA l.length Vc), .int .u64 tg, .int .u64 tn] rfl rfl (by rw [infoOP]; rfl) rfl hone ?_) | fail)
      refine wp_world (fun wz => HS wz B sb lb zb tb r s ∧ PM wz pm w.heap.size ML ∧ Blk wz wr.heap.size 37 #[.int .u8 o, (.slice TA tl.length Tc), .int .u64 g, .int .u64 n, .int .u8 p, .bool gr, (.slice VA l.length Vc), .int .u64 tg, .int .u64 tn] ∧ Rd wz .u8 (.slice VA l.length Vc) l ∧ Rd wz .u8 (.slice TA tl.length Tc) tl ∧ Below w.heap.size w wz) ⟨hH.kept hba, hM.below hba, Blk.new wr 37 #[.int .u8 o, (.slice TA tl.length Tc), .int .u64 g, .int .u64 n, .int .u8 p, .bool gr, (.slice VA l.length Vc), .int .u64 tg, .int .u64 tn], hV1.below hba, hT1.below hba, hb.trans (hba.mono hb.size)⟩ ?_
      obtain ⟨ob, hob⟩ : ∃ ob, ob = wr.heap.size := ⟨_, rfl⟩
      rw [← hob]
      clear hH hM hV1 hT1 hb hba hob hone HRG
      rintro w4 ⟨hH, hM, hO, hV1, hT1, hb⟩
      by_cases h50 : 50 ≤ i
      · have hd50 : decide ((50 : Int) ≤ (i : Int)) = true := decide_eq_true (by omega)
        go_wp2_with fail
        go_ret
        exact ⟨rfl, hb⟩
      · have hd50 : decide ((50 : Int) ≤ (i : Int)) = false := decide_eq_false (by omega)
        obtain ⟨d, hd⟩ : ∃ d, d = l.take 2100 := ⟨_, rfl⟩
        obtain ⟨q, hq⟩ : ∃ q, q = tl.take 40 := ⟨_, rfl⟩
        obtain ⟨hdk, hdl⟩ := take_ok hK hd
        obtain ⟨hqk, hql⟩ := take40_ok hTK hq
        have HD := Lib.hid hd
        have HQ := Lib.hid hq
        have HDK := Lib.hid hdk
        have HQK := Lib.hid hqk
        clear hd hq hdk hqk
        go_upto_region 10 with fail
        go_cut [11, 12] (fun s11 s12 wc => ∃ (zk : Nat) (qA dA : Option Addr) (qc dc : Nat), s11 = .slice qA q.length qc ∧ s12 = .pointer (some ⟨zk, 0, none⟩) ∧ w.heap.size ≤ zk ∧ Hid (∀ m ∈ ML, m.v.ownBlock ≠ some zk) ∧ HS wc B sb lb zb tb r s ∧ PM wc pm w.heap.size ML ∧ Blk wc zk 35 #[.int .u64 g, .int .u64 n, .int .u8 p, .bool gr, .slice dA d.length dc] ∧ RdT wc (.slice qA q.length qc) q ∧ RdT wc (.slice dA d.length dc) d ∧ Below w.heap.size w wc)
        case first =>
          have hHd : HS w4.drew B sb lb zb tb r s := hH.kept (below_drewN (Below.refl _ _) 1)
          have hMd : PM w4.drew pm w.heap.size ML := hM.below (below_drewN (Below.refl _ _) 1)
          have hb0d : Below w.heap.size w w4.drew := below_drewN hb 1
          have HVd : Hid (Rd w4.drew .u8 (.slice VA l.length Vc) l) := Lib.hid hV1
          have HTd : Hid (Rd w4.drew .u8 (.slice TA tl.length Tc) tl) := Lib.hid hT1
          have c1 : World.cell? w4.drew ⟨ob, 1, none⟩ = some (.slice TA tl.length Tc) := hO.cell 1
          have c2 : World.cell? w4.drew ⟨ob, 2, none⟩ = some (.int .u64 g) := hO.cell 2
          have c3 : World.cell? w4.drew ⟨ob, 3, none⟩ = some (.int .u64 n) := hO.cell 3
          have c4 : World.cell? w4.drew ⟨ob, 4, none⟩ = some (.int .u8 p) := hO.cell 4
          have c5 : World.cell? w4.drew ⟨ob, 5, none⟩ = some (.bool gr) := hO.cell 5
          have c6 : World.cell? w4.drew ⟨ob, 6, none⟩ = some (.slice VA l.length Vc) := hO.cell 6
          have HKS : Hid (∀ W, Below w4.drew.heap.size w4.drew W → World.cell? W ⟨ob, 1, none⟩ = some (.slice TA tl.length Tc) ∧ World.cell? W ⟨ob, 2, none⟩ = some (.int .u64 g) ∧ World.cell? W ⟨ob, 3, none⟩ = some (.int .u64 n) ∧ World.cell? W ⟨ob, 4, none⟩ = some (.int .u8 p) ∧ World.cell? W ⟨ob, 5, none⟩ = some (.bool gr) ∧ World.cell? W ⟨ob, 6, none⟩ = some (.slice VA l.length Vc)) := Lib.hid (fun W hW => by
            have h1 := Blk.same (show Blk w4.drew ob 37 _ from hO) hW
            exact ⟨h1.cell 1, h1.cell 2, h1.cell 3, h1.cell 4, h1.cell 5, h1.cell 6⟩)
          refine wp_region_held_drew (S := fun W => World.cell? W ⟨ob, 1, none⟩ = some (.slice TA tl.length Tc) ∧ World.cell? W ⟨ob, 2, none⟩ = some (.int .u64 g) ∧ World.cell? W ⟨ob, 3, none⟩ = some (.int .u64 n) ∧ World.cell? W ⟨ob, 4, none⟩ = some (.int .u8 p) ∧ World.cell? W ⟨ob, 5, none⟩ = some (.bool gr) ∧ World.cell? W ⟨ob, 6, none⟩ = some (.slice VA l.length Vc)) (by kernel_rfl) (by first | with_reducible exact ⟨c1, c2, c3, c4, c5, c6⟩ | exact HKS.out _ HBf | exact HKS.out _ HBc) (fun _ => ?_)
          refine wpAnyH_take (i := 0) (oi := ({ dst := some 44, op := Op.fieldAddr 37 (Operand.tmp 10) 1, type := 0, pos := _, after := #[], guard := none } : Oper)) (v := ?_) rfl (by kernel_rfl) (by kernel_rfl) (by kernel_rfl) (fun _ _ _ h => h) (Or.inl ⟨by rfl, ?_⟩) (by first | with_reducible exact ⟨c1, c2, c3, c4, c5, c6⟩ | exact HKS.out _ HBf | exact HKS.out _ HBc) ?_
          rotate_left
          · intro w hSw
            try dsimp only at hSw
            go_simp
            try with_reducible rfl
          try simp only [Act.put, List.setIfInBounds_toArray, List.set_cons_zero, List.set_cons_succ]
          refine wpAnyH_take (i := 1) (oi := ({ dst := some 45, op := Op.load 30 (Operand.tmp 44), type := 30, pos := _, after := #[{ on := 0, ground := Ground.data }], guard := none } : Oper)) (v := ?_) rfl (by kernel_rfl) (by kernel_rfl) (by kernel_rfl) (fun _ _ _ h => h) (Or.inl ⟨by rfl, ?_⟩) (by first | with_reducible exact ⟨c1, c2, c3, c4, c5, c6⟩ | exact HKS.out _ HBf | exact HKS.out _ HBc) ?_
          rotate_left
          · intro w hSw
            try dsimp only at hSw
            go_simp
            try with_reducible rfl
          try simp only [Act.put, List.setIfInBounds_toArray, List.set_cons_zero, List.set_cons_succ]
          refine wpAnyH_take (i := 3) (oi := ({ dst := some 47, op := Op.fieldAddr 37 (Operand.tmp 10) 2, type := 0, pos := _, after := #[], guard := none } : Oper)) (v := ?_) rfl (by kernel_rfl) (by kernel_rfl) (by kernel_rfl) (fun _ _ _ h => h) (Or.inl ⟨by rfl, ?_⟩) (by first | with_reducible exact ⟨c1, c2, c3, c4, c5, c6⟩ | exact HKS.out _ HBf | exact HKS.out _ HBc) ?_
          rotate_left
          · intro w hSw
            try dsimp only at hSw
            go_simp
            try with_reducible rfl
          try simp only [Act.put, List.setIfInBounds_toArray, List.set_cons_zero, List.set_cons_succ]
          refine wpAnyH_take (i := 4) (oi := ({ dst := some 48, op := Op.load 35 (Operand.tmp 47), type := 35, pos := _, after := #[{ on := 3, ground := Ground.data }], guard := none } : Oper)) (v := ?_) rfl (by kernel_rfl) (by kernel_rfl) (by kernel_rfl) (fun _ _ _ h => h) (Or.inl ⟨by rfl, ?_⟩) (by first | with_reducible exact ⟨c1, c2, c3, c4, c5, c6⟩ | exact HKS.out _ HBf | exact HKS.out _ HBc) ?_
          rotate_left
          · intro w hSw
            try dsimp only at hSw
            go_simp
            try with_reducible rfl
          try simp only [Act.put, List.setIfInBounds_toArray, List.set_cons_zero, List.set_cons_succ]
          refine wpAnyH_ready (rs := [2, 6]) (by kernel_rfl) (by simp) ?_
          refine (AllReadyH.cons (o := ({ dst := some 46, op := Op.call { callee := Callee.value (Operand.func 10), args := #[Operand.tmp 45, Operand.const (Value.int IntKind.i64 40)], argTypes := #[30, 3] }, type := 30, pos := _, after := #[{ on := 1, ground := Ground.data }], guard := none } : Oper)) rfl (fun K hK => ?_) (AllReadyH.cons (o := ({ dst := some 12, op := Op.alloc 35, type := 0, pos := _, after := #[], guard := none } : Oper)) rfl (fun K hK => ?_) AllReadyH.nil))
          · go_simp
            go_at_call 10
            (with_reducible refine (cut40 (.slice TA tl.length Tc) tl q HQ.out w4.drew HTd.out).mono ?_)
            rintro e w7 ⟨qA, qc, rfl, hoq, hb7⟩
            have hQ := rdt_of_own hoq
            have HBc := hb7
            refine hK.out _ _ (by first | with_reducible exact ⟨c1, c2, c3, c4, c5, c6⟩ | exact HKS.out _ HBf | exact HKS.out _ HBc) (fun _ => ?_)
            clear hK K
            try simp only [Act.put, List.setIfInBounds_toArray, List.set_cons_zero, List.set_cons_succ]
            refine wpAnyH_ready (rs := [5, 6]) (by kernel_rfl) (by simp) ?_
            refine (AllReadyH.cons (o := ({ dst := some 49, op := Op.call { callee := Callee.value (Operand.func 11), args := #[Operand.tmp 48], argTypes := #[35] }, type := 35, pos := _, after := #[{ on := 4, ground := Ground.data }, { on := 2, ground := Ground.chain }], guard := none } : Oper)) rfl (fun K hK => ?_) (AllReadyH.cons (o := ({ dst := some 12, op := Op.alloc 35, type := 0, pos := _, after := #[], guard := none } : Oper)) rfl (fun K hK => ?_) AllReadyH.nil))
            · go_simp
              go_at_call 11
              (with_reducible refine (few_d g n p gr (.slice VA l.length Vc) l d HD.out w7 (HVd.out.below HBc)).mono ?_)
              rintro e w8 ⟨dA, dc, rfl, hod, hb8⟩
              have hDd := rdt_of_own hod
              have hQ := hQ.below hb8
              have HBc := HBc.trans (hb8.mono HBc.size)
              refine hK.out _ _ (by first | with_reducible exact ⟨c1, c2, c3, c4, c5, c6⟩ | exact HKS.out _ HBf | exact HKS.out _ HBc) (fun _ => ?_)
              clear hK K
              try simp only [Act.put, List.setIfInBounds_toArray, List.set_cons_zero, List.set_cons_succ]
              refine wpAnyH_ready (rs := [6]) (by kernel_rfl) (by simp) ?_
              refine (AllReadyH.cons (o := ({ dst := some 12, op := Op.alloc 35, type := 0, pos := _, after := #[], guard := none } : Oper)) rfl (fun K hK => ?_) AllReadyH.nil)
              go_simp
              have hZ := Blk.new w8 35 #[.int .u64 0, .int .u64 0, .int .u8 0, .bool false, .slice none 0 0]
              have hzk := HBc.size
              have HBn : Below w8.heap.size w8 (w8.alloc (.cells #[.int .u64 0, .int .u64 0, .int .u8 0, .bool false, .slice none 0 0] 35)) := (Below.refl _ _).alloc (Nat.le_refl _) _
              have HBc := HBc.alloc HBc.size (.cells #[.int .u64 0, .int .u64 0, .int .u8 0, .bool false, .slice none 0 0] 35)
              have hQ := hQ.below HBn
              have hDd := hDd.below HBn
              refine hK.out _ _ (by first | with_reducible exact ⟨c1, c2, c3, c4, c5, c6⟩ | exact HKS.out _ HBf | exact HKS.out _ HBc) (fun _ => ?_)
              clear hK K
              try simp only [Act.put, List.setIfInBounds_toArray, List.set_cons_zero, List.set_cons_succ]
              refine wpAnyH_take (i := 7) (oi := ({ dst := some 11, op := Op.assign (Operand.tmp 46), type := 30, pos := _, after := #[{ on := 2, ground := Ground.data }, { on := 5, ground := Ground.chain }, { on := 0, ground := Ground.phase }, { on := 1, ground := Ground.phase }, { on := 2, ground := Ground.phase }, { on := 3, ground := Ground.textOnly Departure.lateStores }, { on := 4, ground := Ground.textOnly Departure.lateStores }, { on := 5, ground := Ground.textOnly Departure.lateStoresUnsure }, { on := 6, ground := Ground.phase }], guard := none } : Oper)) (v := ?_) rfl (by kernel_rfl) (by kernel_rfl) (by kernel_rfl) (fun _ _ _ h => h) (Or.inl ⟨by rfl, ?_⟩) (by first | with_reducible exact ⟨c1, c2, c3, c4, c5, c6⟩ | exact HKS.out _ HBf | exact HKS.out _ HBc) ?_
              rotate_left
              · intro w hSw
                try dsimp only at hSw
                go_simp
                try with_reducible rfl
              try simp only [Act.put, List.setIfInBounds_toArray, List.set_cons_zero, List.set_cons_succ]
              refine wpAnyH_ready (rs := [8]) (by kernel_rfl) (by simp) ?_
              refine (AllReadyH.cons (o := ({ dst := none, op := Op.store 35 (Operand.tmp 12) (Operand.tmp 49), type := 0, pos := _, after := #[{ on := 6, ground := Ground.data }, { on := 5, ground := Ground.data }, { on := 7, ground := Ground.chain }, { on := 0, ground := Ground.phase }, { on := 1, ground := Ground.phase }, { on := 2, ground := Ground.phase }, { on := 3, ground := Ground.phase }, { on := 4, ground := Ground.phase }, { on := 5, ground := Ground.phase }, { on := 6, ground := Ground.phase }, { on := 7, ground := Ground.phase }], guard := none } : Oper)) rfl (fun K hK => ?_) AllReadyH.nil)
              refine step_store_row rfl 35 (.tmp 12) (.tmp 49) rfl _ #[.int .u64 g, .int .u64 n, .int .u8 p, .bool gr, .slice dA d.length dc] rfl rfl 35 #[.int .u64 0, .int .u64 0, .int .u8 0, .bool false, .slice none 0 0] hZ (by rw [infoOB]; rfl) rfl (o5_one _ _ _ _ _ _ _) ?_
              have HBf := below_row HBc hzk #[.int .u64 g, .int .u64 n, .int .u8 p, .bool gr, .slice dA d.length dc]
              refine hK.out _ _ (by first | with_reducible exact ⟨c1, c2, c3, c4, c5, c6⟩ | exact HKS.out _ HBf | exact HKS.out _ HBc) (fun _ => ?_)
              clear hK K
              try simp only [Act.put, List.setIfInBounds_toArray, List.set_cons_zero, List.set_cons_succ]
              refine wpAnyH_done (by kernel_rfl) ?_ _
              go_wp2_with fail
              go_meet
              exact ⟨_, qA, dA, qc, dc, rfl, rfl, Nat.le_trans hb0d.size hzk, Lib.hid (fun m hm e => by have := own_lt (hMd.row m hm).1.row e; omega), hHd.kept HBf, hMd.below HBf, hZ.row #[.int .u64 g, .int .u64 n, .int .u8 p, .bool gr, .slice dA d.length dc], rdt_grown hQ hZ (by decide) (row_grown _ _ _), rdt_grown hDd hZ (by decide) (row_grown _ _ _), hb0d.trans (HBf.mono hb0d.size)⟩
            · go_simp
              have hZ := Blk.new w7 35 #[.int .u64 0, .int .u64 0, .int .u8 0, .bool false, .slice none 0 0]
              have hzk := HBc.size
              have HBn : Below w7.heap.size w7 (w7.alloc (.cells #[.int .u64 0, .int .u64 0, .int .u8 0, .bool false, .slice none 0 0] 35)) := (Below.refl _ _).alloc (Nat.le_refl _) _
              have HBc := HBc.alloc HBc.size (.cells #[.int .u64 0, .int .u64 0, .int .u8 0, .bool false, .slice none 0 0] 35)
              have hQ := hQ.below HBn
              refine hK.out _ _ (by first | with_reducible exact ⟨c1, c2, c3, c4, c5, c6⟩ | exact HKS.out _ HBf | exact HKS.out _ HBc) (fun _ => ?_)
              clear hK K
              try simp only [Act.put, List.setIfInBounds_toArray, List.set_cons_zero, List.set_cons_succ]
              refine wpAnyH_ready (rs := [5]) (by kernel_rfl) (by simp) ?_
              refine (AllReadyH.cons (o := ({ dst := some 49, op := Op.call { callee := Callee.value (Operand.func 11), args := #[Operand.tmp 48], argTypes := #[35] }, type := 35, pos := _, after := #[{ on := 4, ground := Ground.data }, { on := 2, ground := Ground.chain }], guard := none } : Oper)) rfl (fun K hK => ?_) AllReadyH.nil)
              go_simp
              go_at_call 11
              (with_reducible refine (few_d g n p gr (.slice VA l.length Vc) l d HD.out (w7.alloc (.cells #[.int .u64 0, .int .u64 0, .int .u8 0, .bool false, .slice none 0 0] 35)) (HVd.out.below HBc)).mono ?_)
              rintro e w8 ⟨dA, dc, rfl, hod, hb8⟩
              have hDd := rdt_of_own hod
              have hQ := hQ.below hb8
              have HBc := HBc.trans (hb8.mono HBc.size)
              have hZ := hZ.same hb8
              refine hK.out _ _ (by first | with_reducible exact ⟨c1, c2, c3, c4, c5, c6⟩ | exact HKS.out _ HBf | exact HKS.out _ HBc) (fun _ => ?_)
              clear hK K
              try simp only [Act.put, List.setIfInBounds_toArray, List.set_cons_zero, List.set_cons_succ]
              refine wpAnyH_take (i := 7) (oi := ({ dst := some 11, op := Op.assign (Operand.tmp 46), type := 30, pos := _, after := #[{ on := 2, ground := Ground.data }, { on := 5, ground := Ground.chain }, { on := 0, ground := Ground.phase }, { on := 1, ground := Ground.phase }, { on := 2, ground := Ground.phase }, { on := 3, ground := Ground.textOnly Departure.lateStores }, { on := 4, ground := Ground.textOnly Departure.lateStores }, { on := 5, ground := Ground.textOnly Departure.lateStoresUnsure }, { on := 6, ground := Ground.phase }], guard := none } : Oper)) (v := ?_) rfl (by kernel_rfl) (by kernel_rfl) (by kernel_rfl) (fun _ _ _ h => h) (Or.inl ⟨by rfl, ?_⟩) (by first | with_reducible exact ⟨c1, c2, c3, c4, c5, c6⟩ | exact HKS.out _ HBf | exact HKS.out _ HBc) ?_
              rotate_left
              · intro w hSw
                try dsimp only at hSw
                go_simp
                try with_reducible rfl
              try simp only [Act.put, List.setIfInBounds_toArray, List.set_cons_zero, List.set_cons_succ]
              refine wpAnyH_ready (rs := [8]) (by kernel_rfl) (by simp) ?_
              refine (AllReadyH.cons (o := ({ dst := none, op := Op.store 35 (Operand.tmp 12) (Operand.tmp 49), type := 0, pos := _, after := #[{ on := 6, ground := Ground.data }, { on := 5, ground := Ground.data }, { on := 7, ground := Ground.chain }, { on := 0, ground := Ground.phase }, { on := 1, ground := Ground.phase }, { on := 2, ground := Ground.phase }, { on := 3, ground := Ground.phase }, { on := 4, ground := Ground.phase }, { on := 5, ground := Ground.phase }, { on := 6, ground := Ground.phase }, { on := 7, ground := Ground.phase }], guard := none } : Oper)) rfl (fun K hK => ?_) AllReadyH.nil)
              refine step_store_row rfl 35 (.tmp 12) (.tmp 49) rfl _ #[.int .u64 g, .int .u64 n, .int .u8 p, .bool gr, .slice dA d.length dc] rfl rfl 35 #[.int .u64 0, .int .u64 0, .int .u8 0, .bool false, .slice none 0 0] hZ (by rw [infoOB]; rfl) rfl (o5_one _ _ _ _ _ _ _) ?_
              have HBf := below_row HBc hzk #[.int .u64 g, .int .u64 n, .int .u8 p, .bool gr, .slice dA d.length dc]
              refine hK.out _ _ (by first | with_reducible exact ⟨c1, c2, c3, c4, c5, c6⟩ | exact HKS.out _ HBf | exact HKS.out _ HBc) (fun _ => ?_)
              clear hK K
              try simp only [Act.put, List.setIfInBounds_toArray, List.set_cons_zero, List.set_cons_succ]
              refine wpAnyH_done (by kernel_rfl) ?_ _
              go_wp2_with fail
              go_meet
              exact ⟨_, qA, dA, qc, dc, rfl, rfl, Nat.le_trans hb0d.size hzk, Lib.hid (fun m hm e => by have := own_lt (hMd.row m hm).1.row e; omega), hHd.kept HBf, hMd.below HBf, hZ.row #[.int .u64 g, .int .u64 n, .int .u8 p, .bool gr, .slice dA d.length dc], rdt_grown hQ hZ (by decide) (row_grown _ _ _), rdt_grown hDd hZ (by decide) (row_grown _ _ _), hb0d.trans (HBf.mono hb0d.size)⟩
          · go_simp
            have hZ : Blk (w4.alloc (.cells #[.int .u64 0, .int .u64 0, .int .u8 0, .bool false, .slice none 0 0] 35)).drew w4.heap.size 35 #[.int .u64 0, .int .u64 0, .int .u8 0, .bool false, .slice none 0 0] := Blk.new w4 35 #[.int .u64 0, .int .u64 0, .int .u8 0, .bool false, .slice none 0 0]
            have HBc : Below w4.drew.heap.size w4.drew (w4.alloc (.cells #[.int .u64 0, .int .u64 0, .int .u8 0, .bool false, .slice none 0 0] 35)).drew := (Below.refl w4.drew.heap.size w4.drew).alloc (Nat.le_refl _) (.cells #[.int .u64 0, .int .u64 0, .int .u8 0, .bool false, .slice none 0 0] 35)
            have hzk : w4.drew.heap.size ≤ w4.heap.size := Nat.le_refl _
            refine hK.out _ _ (by first | with_reducible exact ⟨c1, c2, c3, c4, c5, c6⟩ | exact HKS.out _ HBf | exact HKS.out _ HBc) (fun _ => ?_)
            clear hK K
            try simp only [Act.put, List.setIfInBounds_toArray, List.set_cons_zero, List.set_cons_succ]
            refine wpAnyH_ready (rs := [2]) (by kernel_rfl) (by simp) ?_
            refine (AllReadyH.cons (o := ({ dst := some 46, op := Op.call { callee := Callee.value (Operand.func 10), args := #[Operand.tmp 45, Operand.const (Value.int IntKind.i64 40)], argTypes := #[30, 3] }, type := 30, pos := _, after := #[{ on := 1, ground := Ground.data }], guard := none } : Oper)) rfl (fun K hK => ?_) AllReadyH.nil)
            go_simp
            go_at_call 10
            (with_reducible refine (cut40 (.slice TA tl.length Tc) tl q HQ.out (w4.alloc (.cells #[.int .u64 0, .int .u64 0, .int .u8 0, .bool false, .slice none 0 0] 35)).drew (HTd.out.below HBc)).mono ?_)
            rintro e w7 ⟨qA, qc, rfl, hoq, hb7⟩
            have hQ := rdt_of_own hoq
            have HBc := HBc.trans (hb7.mono HBc.size)
            have hZ := hZ.same hb7
            refine hK.out _ _ (by first | with_reducible exact ⟨c1, c2, c3, c4, c5, c6⟩ | exact HKS.out _ HBf | exact HKS.out _ HBc) (fun _ => ?_)
            clear hK K
            try simp only [Act.put, List.setIfInBounds_toArray, List.set_cons_zero, List.set_cons_succ]
            refine wpAnyH_ready (rs := [5]) (by kernel_rfl) (by simp) ?_
            refine (AllReadyH.cons (o := ({ dst := some 49, op := Op.call { callee := Callee.value (Operand.func 11), args := #[Operand.tmp 48], argTypes := #[35] }, type := 35, pos := _, after := #[{ on := 4, ground := Ground.data }, { on := 2, ground := Ground.chain }], guard := none } : Oper)) rfl (fun K hK => ?_) AllReadyH.nil)
            go_simp
            go_at_call 11
            (with_reducible refine (few_d g n p gr (.slice VA l.length Vc) l d HD.out w7 (HVd.out.below HBc)).mono ?_)
            rintro e w8 ⟨dA, dc, rfl, hod, hb8⟩
            have hDd := rdt_of_own hod
            have hQ := hQ.below hb8
            have HBc := HBc.trans (hb8.mono HBc.size)
            have hZ := hZ.same hb8
            refine hK.out _ _ (by first | with_reducible exact ⟨c1, c2, c3, c4, c5, c6⟩ | exact HKS.out _ HBf | exact HKS.out _ HBc) (fun _ => ?_)
            clear hK K
            try simp only [Act.put, List.setIfInBounds_toArray, List.set_cons_zero, List.set_cons_succ]
            refine wpAnyH_take (i := 7) (oi := ({ dst := some 11, op := Op.assign (Operand.tmp 46), type := 30, pos := _, after := #[{ on := 2, ground := Ground.data }, { on := 5, ground := Ground.chain }, { on := 0, ground := Ground.phase }, { on := 1, ground := Ground.phase }, { on := 2, ground := Ground.phase }, { on := 3, ground := Ground.textOnly Departure.lateStores }, { on := 4, ground := Ground.textOnly Departure.lateStores }, { on := 5, ground := Ground.textOnly Departure.lateStoresUnsure }, { on := 6, ground := Ground.phase }], guard := none } : Oper)) (v := ?_) rfl (by kernel_rfl) (by kernel_rfl) (by kernel_rfl) (fun _ _ _ h => h) (Or.inl ⟨by rfl, ?_⟩) (by first | with_reducible exact ⟨c1, c2, c3, c4, c5, c6⟩ | exact HKS.out _ HBf | exact HKS.out _ HBc) ?_
            rotate_left
            · intro w hSw
              try dsimp only at hSw
              go_simp
              try with_reducible rfl
            try simp only [Act.put, List.setIfInBounds_toArray, List.set_cons_zero, List.set_cons_succ]
            refine wpAnyH_ready (rs := [8]) (by kernel_rfl) (by simp) ?_
            refine (AllReadyH.cons (o := ({ dst := none, op := Op.store 35 (Operand.tmp 12) (Operand.tmp 49), type := 0, pos := _, after := #[{ on := 6, ground := Ground.data }, { on := 5, ground := Ground.data }, { on := 7, ground := Ground.chain }, { on := 0, ground := Ground.phase }, { on := 1, ground := Ground.phase }, { on := 2, ground := Ground.phase }, { on := 3, ground := Ground.phase }, { on := 4, ground := Ground.phase }, { on := 5, ground := Ground.phase }, { on := 6, ground := Ground.phase }, { on := 7, ground := Ground.phase }], guard := none } : Oper)) rfl (fun K hK => ?_) AllReadyH.nil)
            refine step_store_row rfl 35 (.tmp 12) (.tmp 49) rfl _ #[.int .u64 g, .int .u64 n, .int .u8 p, .bool gr, .slice dA d.length dc] rfl rfl 35 #[.int .u64 0, .int .u64 0, .int .u8 0, .bool false, .slice none 0 0] hZ (by rw [infoOB]; rfl) rfl (o5_one _ _ _ _ _ _ _) ?_
            have HBf := below_row HBc hzk #[.int .u64 g, .int .u64 n, .int .u8 p, .bool gr, .slice dA d.length dc]
            refine hK.out _ _ (by first | with_reducible exact ⟨c1, c2, c3, c4, c5, c6⟩ | exact HKS.out _ HBf | exact HKS.out _ HBc) (fun _ => ?_)
            clear hK K
            try simp only [Act.put, List.setIfInBounds_toArray, List.set_cons_zero, List.set_cons_succ]
            refine wpAnyH_done (by kernel_rfl) ?_ _
            go_wp2_with fail
            go_meet
            exact ⟨_, qA, dA, qc, dc, rfl, rfl, Nat.le_trans hb0d.size hzk, Lib.hid (fun m hm e => by have := own_lt (hMd.row m hm).1.row e; omega), hHd.kept HBf, hMd.below HBf, hZ.row #[.int .u64 g, .int .u64 n, .int .u8 p, .bool gr, .slice dA d.length dc], rdt_grown hQ hZ (by decide) (row_grown _ _ _), rdt_grown hDd hZ (by decide) (row_grown _ _ _), hb0d.trans (HBf.mono hb0d.size)⟩
        clear hH hM hO hV1 hT1 hb
        obtain ⟨w5, hwe⟩ : ∃ x, x = wc := ⟨_, rfl⟩
        subst hwe
        obtain ⟨zk, qA, dA, qc, dc, rfl, rfl, hzk, HZR, hH, hM, hO, hQ, hD, hb⟩ := hcut
        have hqc : q.length ≤ qc := hQ.1.rdv.2.2.1
        go_upto_block 2 with fail
        go_cut [11] (fun s11 wc => ∃ m : Nat, s11 = .slice qA m qc ∧ m ≤ q.length ∧ wc = w5)
        case first =>
          go_wp2_with fail
          go_loopg [11] q.length (fun gk s11 wr => ∃ m : Nat, gk = m ∧ m ≤ q.length ∧ s11 = .slice qA m qc ∧ wr = w5)
          case atStart => exact ⟨q.length, rfl, Nat.le_refl _, rfl, rfl⟩
          case round =>
            obtain ⟨m, hgk2, hmq, rfl, rfl⟩ := hrel
            cases m with
            | zero =>
              go_wp2_with fail
              go_meet
              exact ⟨0, rfl, Nat.zero_le _, rfl⟩
            | succ k =>
              obtain ⟨b2, off2, rfl, hbl2, e2⟩ := hQ.1.at_ k (by omega)
              obtain ⟨x, hx⟩ : ∃ x, x = q.getD k 0 := ⟨_, rfl⟩
              rw [← hx] at e2
              clear hx
              have hkc : (k : Int) ≤ (qc : Int) := by omega
              have hd0 : decide ((0 : Int) < (k : Int) + 1) = true := decide_eq_true (by omega)
              by_cases hx0 : x = 0
              · have hxb : (x == 0) = true := by simpa using hx0
                go_wp2_with fail
                go_roundg k
                case measure => omega
                case rel => exact ⟨k, rfl, by omega, rfl, rfl⟩
              · have hxb : (x == 0) = false := by simpa using hx0
                go_wp2_with fail
                go_meet
                exact ⟨k + 1, rfl, hmq, rfl⟩
        obtain ⟨m, rfl, hmq, rfl⟩ := hcut
        have hN5 : RdF wc (.slice qA m qc) (q.take m) := hQ.rdf.pre hmq
        obtain ⟨nl, hnl⟩ : ∃ nl, nl = q.take m := ⟨_, rfl⟩
        have hnk : BytesOk nl := fun x hx => by rw [hnl] at hx; exact HQK.out x (List.mem_of_mem_take hx)
        have hnll : nl.length ≤ 40 := by rw [hnl, List.length_take]; omega
        rw [← hnl] at hN5
        clear hnl hQ
        have p3 : World.cell? wc ⟨zk, 3, none⟩ = some (.bool gr) := hO.cell 3
        have f3 := hO.frozen 3
        go_upto_region 14 with fail
        refine wp_world (fun wz => HS wz B sb lb zb tb r s ∧ PM wz pm w.heap.size ML ∧ Blk wz zk 35 #[.int .u64 g, .int .u64 n, .int .u8 p, .bool false, .slice dA d.length dc] ∧ RdF wz (.slice qA m qc) nl ∧ RdT wz (.slice dA d.length dc) d ∧ Below w.heap.size w wz) ⟨hH.blk hO 3 _ (by decide) (by decide) (by decide), hM.blk hO (by decide) HZR.out 3 _, by simpa using hO.set_ 3 (.bool false), hN5.blk hO 3 _ (by decide), rdt_set hD hO (by decide) 3 _, hb.setCell (p := ⟨zk, 3, none⟩) hzk _⟩ ?_
        clear hH hM hO hN5 hD hb p3 f3
        rintro w6 ⟨hH, hM, hO, hN, hD, hb⟩
        have z0 : World.cell? w6 ⟨zk, 0, none⟩ = some (.int .u64 g) := hO.cell 0
        have z1 : World.cell? w6 ⟨zk, 1, none⟩ = some (.int .u64 n) := hO.cell 1
        have z2 : World.cell? w6 ⟨zk, 2, none⟩ = some (.int .u8 p) := hO.cell 2
        have z3 : World.cell? w6 ⟨zk, 3, none⟩ = some (.bool false) := hO.cell 3
        have z4 : World.cell? w6 ⟨zk, 4, none⟩ = some (.slice dA d.length dc) := hO.cell 4
        have hput := put_any B sb lb zb tb (.slice qA m qc) r g n p false dA dc nl d s w6 hH hok (by omega) hN.1 hnk (by omega) hD HDK.out (by omega) hg hn hp
        have hok' := pput_okP (l := nl) (g := g) (n := n) (p := p) (d := d) hok
        have HTH := Lib.hid (fun h0 => put_there (l := nl) (g := g) (n := n) (p := p) (d := d) hok h0)
        have HGR := Lib.hid (fun h0 (rr : GR) (hr : rr.Ok s) => put_group (l := nl) (g := g) (n := n) (p := p) (d := d) hok h0 rr hr)
        have HSM := Lib.hid (pput_same (room := r) (s := s) (l := nl) (g := g) (n := n) (p := p) (d := d))
        have HNE := Lib.hid (fun h0 => (put_whole (l := nl) (g := g) (n := n) (p := p) (d := d) hok h0).1)
        obtain ⟨pr, hpr⟩ : ∃ pr, pr = pput r s nl g n p d := ⟨_, rfl⟩
        rw [← hpr] at hput hok' HTH HGR HSM HNE
        obtain ⟨cd, sx⟩ := pr
        simp only at hput hok' HTH HGR HSM HNE
        clear hpr
        have HNK := Lib.hid hnk
        clear hnk
        go_upto_if 72 with (first | (go_at_call 12; (with_reducible refine hput.mono ?_); clear hput; rintro e w7 ⟨rfl, hH7, hx7, hb7⟩) | fail)
        refine wp_world (fun wz => HS wz B sb lb zb tb r sx ∧ PM wz pm w.heap.size ML ∧ Blk wz zk 35 #[.int .u64 g, .int .u64 n, .int .u8 p, .bool false, .slice dA d.length dc] ∧ RdF wz (.slice qA m qc) nl ∧ RdT wz (.slice dA d.length dc) d ∧ Below w.heap.size w wz) ⟨hH7, hM.kx hH hx7 HPX.out.1 HPX.out.2.1 HPX.out.2.2, hO.kx hH hx7 (by decide) (by decide), hN.kx hH hx7, hD.kx hH hx7, hb.trans (hb7.mono hwB)⟩ ?_
        clear hH hM hO hN hD hb z0 z1 z2 z3 z4 hH7 hx7 hb7
        rintro w7 ⟨hH, hM, hO, hN, hD, hb⟩
        go_cut [] (fun wc => ∃ (s' : PS) (ML' : List MR), HS wc B sb lb zb tb r s' ∧ s'.Ok r ∧ PM wc pm w.heap.size ML' ∧ MOk s' ML' ∧ MLen (i + 1) ML' ∧ Below w.heap.size w wc)
        case first =>
          by_cases hc0 : cd = 0
          · subst hc0
            have hcb : ((0 : Int) == 0) = true := rfl
            have hth := HTH.out (by first | rfl | trivial)
            have z0 : World.cell? w7 ⟨zk, 0, none⟩ = some (.int .u64 g) := hO.cell 0
            have z1 : World.cell? w7 ⟨zk, 1, none⟩ = some (.int .u64 n) := hO.cell 1
            have hget := get_any B sb lb zb tb (.slice qA m qc) r g n nl sx w7 hH hN.1 HNK.out (by omega) hg hn hok' (by omega) g n p d true (by rw [hth]; rfl)
            clear hth
            go_upto_region 16 with (first | (go_at_call 13; (with_reducible refine hget.mono ?_); clear hget; rintro e w8 ⟨dv, rfl, ho8, hH8, hb8⟩; obtain ⟨cA, cc, rfl, _⟩ := sl_of_own ho8) | fail)
            have hba : Below w8.heap.size w8 (w8.alloc (.cells #[.int .u64 g, .int .u64 n, .int .u8 p, .bool false, .slice cA d.length cc] 35)) := (Below.refl _ _).alloc (Nat.le_refl _) _
            have hb08 := hb.trans (hb8.mono hb.size)
            refine wp_world (fun wz => PM wz pm w.heap.size ML ∧ Blk wz w8.heap.size 35 #[.int .u64 g, .int .u64 n, .int .u8 p, .bool false, .slice cA d.length cc] ∧ RdT wz (.slice cA d.length cc) d ∧ HS wz B sb lb zb tb r sx ∧ Blk wz zk 35 #[.int .u64 g, .int .u64 n, .int .u8 p, .bool false, .slice dA d.length dc] ∧ RdF wz (.slice qA m qc) nl ∧ RdT wz (.slice dA d.length dc) d ∧ Below w.heap.size w wz) ⟨(hM.below hb8).below hba, Blk.new w8 35 #[.int .u64 g, .int .u64 n, .int .u8 p, .bool false, .slice cA d.length cc], (rdt_of_own ho8).below hba, hH8.kept hba, (hO.same hb8).same hba, (hN.below hb8).below hba, (hD.below hb8).below hba, hb08.trans (hba.mono hb08.size)⟩ ?_
            obtain ⟨gk, hgk8⟩ : ∃ gk, gk = w8.heap.size := ⟨_, rfl⟩
            rw [← hgk8]
            clear hH hM hO hN hD hb z0 z1 hH8 hb8 hba hb08 ho8 hgk8
            rintro w9 ⟨hM, hG, hR9, hH, hO, hN, hD, hb⟩
            have g0 : World.cell? w9 ⟨gk, 0, none⟩ = some (.int .u64 g) := hG.cell 0
            have g1 : World.cell? w9 ⟨gk, 1, none⟩ = some (.int .u64 n) := hG.cell 1
            have g2 : World.cell? w9 ⟨gk, 2, none⟩ = some (.int .u8 p) := hG.cell 2
            have g3 : World.cell? w9 ⟨gk, 3, none⟩ = some (.bool false) := hG.cell 3
            have g4 : World.cell? w9 ⟨gk, 4, none⟩ = some (.slice cA d.length cc) := hG.cell 4
            have hbx : Below w9.heap.size w9 (w9.alloc (.cells #[.int .u64 g, .int .u64 n, .int .u8 p, .bool false, .slice cA d.length cc] 35)) := (Below.refl _ _).alloc (Nat.le_refl _) _
            have z0 : World.cell? (w9.alloc (.cells #[.int .u64 g, .int .u64 n, .int .u8 p, .bool false, .slice cA d.length cc] 35)) ⟨zk, 0, none⟩ = some (.int .u64 g) := (hO.same hbx).cell 0
            have z1 : World.cell? (w9.alloc (.cells #[.int .u64 g, .int .u64 n, .int .u8 p, .bool false, .slice cA d.length cc] 35)) ⟨zk, 1, none⟩ = some (.int .u64 n) := (hO.same hbx).cell 1
            have z2 : World.cell? (w9.alloc (.cells #[.int .u64 g, .int .u64 n, .int .u8 p, .bool false, .slice cA d.length cc] 35)) ⟨zk, 2, none⟩ = some (.int .u8 p) := (hO.same hbx).cell 2
            have z3 : World.cell? (w9.alloc (.cells #[.int .u64 g, .int .u64 n, .int .u8 p, .bool false, .slice cA d.length cc] 35)) ⟨zk, 3, none⟩ = some (.bool false) := (hO.same hbx).cell 3
            have z4 : World.cell? (w9.alloc (.cells #[.int .u64 g, .int .u64 n, .int .u8 p, .bool false, .slice cA d.length cc] 35)) ⟨zk, 4, none⟩ = some (.slice dA d.length dc) := (hO.same hbx).cell 4
            have hby : Below (w9.alloc (.cells #[.int .u64 g, .int .u64 n, .int .u8 p, .bool false, .slice cA d.length cc] 35)).heap.size (w9.alloc (.cells #[.int .u64 g, .int .u64 n, .int .u8 p, .bool false, .slice cA d.length cc] 35)) ((w9.alloc (.cells #[.int .u64 g, .int .u64 n, .int .u8 p, .bool false, .slice cA d.length cc] 35)).alloc (.cells #[.int .u64 g, .int .u64 n, .int .u8 p, .bool false, .slice dA d.length dc] 35)) := (Below.refl _ _).alloc (Nat.le_refl _) _
            have hA9 := (ORd.of_blk (Blk.new w9 35 #[.int .u64 g, .int .u64 n, .int .u8 p, .bool false, .slice cA d.length cc]) (hR9.below hbx).1).below hby
            have hB9 : ORd ((w9.alloc (.cells #[.int .u64 g, .int .u64 n, .int .u8 p, .bool false, .slice cA d.length cc] 35)).alloc (.cells #[.int .u64 g, .int .u64 n, .int .u8 p, .bool false, .slice dA d.length dc] 35)) (some ⟨w9.heap.size + 1, 0, none⟩) [(g, n, p, false, d)] := ORd.of_blk (blk_new_at (by simp)) ((hD.below hbx).below hby).1
            go_upto_region 18 with (first | (go_at_call 14; (with_reducible refine (same_one _ _ _ _ _ _ hA9 hB9).mono ?_); rintro e wq ⟨rfl, nq, rfl⟩) | fail)
            have hbn : Below w9.heap.size w9 (((w9.alloc (.cells #[.int .u64 g, .int .u64 n, .int .u8 p, .bool false, .slice cA d.length cc] 35)).alloc (.cells #[.int .u64 g, .int .u64 n, .int .u8 p, .bool false, .slice dA d.length dc] 35)).drewN nq) := below_drewN (hbx.trans (hby.mono hbx.size)) nq
            refine wp_world (fun wz => PM wz pm w.heap.size ML ∧ HS wz B sb lb zb tb r sx ∧ Blk wz zk 35 #[.int .u64 g, .int .u64 n, .int .u8 p, .bool false, .slice dA d.length dc] ∧ RdF wz (.slice qA m qc) nl ∧ RdT wz (.slice dA d.length dc) d ∧ Below w.heap.size w wz) ⟨hM.below hbn, hH.kept hbn, hO.same hbn, hN.below hbn, hD.below hbn, hb.trans (hbn.mono hb.size)⟩ ?_
            clear hM hG hR9 hH hO hN hD hb g0 g1 g2 g3 g4 hbx z0 z1 z2 z3 z4 hby hA9 hB9 hbn
            rintro wa ⟨hM, hH, hO, hN, hD, hb⟩
            obtain ⟨wi, hrun, hKR, hbi, hsi⟩ := hM.km.range (t := 29) Try.underlying29
            have hrows := fun y hy => And.intro ((hM.row y hy).1.below hbi) (hM.row y hy).2
            have HAP := Lib.hid hM.ap
            have hHi := hH.kept hbi
            have hOi := hO.same hbi
            have hNi := hN.below hbi
            have hDi := hD.below hbi
            have hbbi := hb.trans (hbi.mono hb.size)
            have hbw : w.heap.size ≤ wa.heap.size := hb.size
            have hROW := Lib.hid hrows
            clear hrows hbi hsi hM hH hO hN hD hb
            go_wp2_with (first | (refine wpList_range rfl 29 (.tmp 91) rfl _ rfl _ _ hrun ?_) | fail)
            simp only [Act.put, List.setIfInBounds_toArray, List.set_cons_zero, List.set_cons_succ]
            clear hrun
            obtain ⟨it, hit⟩ : ∃ it, it = wa.heap.size := ⟨_, rfl⟩
            rw [← hit] at hKR hbw ⊢
            clear hit
            go_loopg [] ML.length (fun gk wr => ∃ (MLc TD : List MR), gk = TD.length ∧ KR Try.prog 46 wr pm it (MLc.map mkv) (TD.map mkv) ∧ Hid (∀ y ∈ MLc, OW wr w.heap.size y.v y.W ∧ y.W.map (·.1) = y.r.L) ∧ Hid ((∀ y ∈ MLc, y ∈ ML) ∧ (∀ y ∈ TD, y ∈ MLc) ∧ (∀ y ∈ MLc, y ∈ TD ∨ y.r.Ok sx) ∧ MLc.Pairwise (fun a b => a.v.ownBlock ≠ b.v.ownBlock)) ∧ HS wr B sb lb zb tb r sx ∧ Blk wr zk 35 #[.int .u64 g, .int .u64 n, .int .u8 p, .bool false, .slice dA d.length dc] ∧ RdF wr (.slice qA m qc) nl ∧ RdT wr (.slice dA d.length dc) d ∧ Below w.heap.size w wr)
            case atStart => exact ⟨ML, ML, rfl, hKR, hROW, Lib.hid ⟨fun y hy => hy, fun y hy => hy, fun y hy => .inl hy, HAP.out⟩, hHi, hOi, hNi, hDi, hbbi⟩
            case round =>
              clear hKR hROW hHi hOi hNi hDi hbbi
              obtain ⟨MLc, TD, hgk9, hKR, HROW, HINV, hH, hO, hN, hD, hb⟩ := hrel
              rcases hKR.next_e 0 with ⟨hM0, hrun⟩ | ⟨A9, v9, C9, wn, hM9, hvL, hrun, hKRn, hgn, hsn, hen⟩
              · have hM0' : TD = [] := List.map_eq_nil_iff.1 hM0
                subst hM0'
                clear hM0
                have hcvt := run_conv (P := Try.prog) 30 9 5 Try.underlying30 Try.underlying5 Try.underlying9 hN.1
                have z0 : World.cell? wr ⟨zk, 0, none⟩ = some (.int .u64 g) := hO.cell 0
                go_upto_region 34 with (first | (refine wpList_next rfl (.tmp 92) rfl _ rfl _ _ hrun ?_) | fail)
                have hba : Below wr.heap.size wr (wr.alloc (.cells #[.string (bstr nl), .int .u64 g] 46)) := (Below.refl _ _).alloc (Nat.le_refl _) _
                refine wp_world (fun wz => KM Try.prog 46 wz pm (MLc.map mkv) ∧ Hid (∀ y ∈ MLc, OW wz w.heap.size y.v y.W ∧ y.W.map (·.1) = y.r.L) ∧ Blk wz wr.heap.size 46 #[.string (bstr nl), .int .u64 g] ∧ HS wz B sb lb zb tb r sx ∧ Blk wz zk 35 #[.int .u64 g, .int .u64 n, .int .u8 p, .bool false, .slice dA d.length dc] ∧ RdF wz (.slice qA m qc) nl ∧ RdT wz (.slice dA d.length dc) d ∧ Below w.heap.size w wz) ⟨hKR.km.below hba, Lib.hid (fun z hz => ⟨(HROW.out z hz).1.below hba, (HROW.out z hz).2⟩), Blk.new wr 46 _, hH.kept hba, hO.same hba, hN.below hba, hD.below hba, hb.trans (hba.mono hb.size)⟩ ?_
                obtain ⟨kb, hkb⟩ : ∃ kb, kb = wr.heap.size := ⟨_, rfl⟩
                rw [← hkb]
                clear hKR HROW hH hO hN hD hb hba hkb hrun hcvt z0
                rintro wk ⟨hKM, HROW, hKB, hH, hO, hN, hD, hb⟩
                have k0 : World.cell? wk ⟨kb, 0, none⟩ = some (.string (bstr nl)) := hKB.cell 0
                have k1 : World.cell? wk ⟨kb, 1, none⟩ = some (.int .u64 g) := hKB.cell 1
                have z0 : World.cell? wk ⟨zk, 0, none⟩ = some (.int .u64 g) := hO.cell 0
                have z1 : World.cell? wk ⟨zk, 1, none⟩ = some (.int .u64 n) := hO.cell 1
                have z2 : World.cell? wk ⟨zk, 2, none⟩ = some (.int .u8 p) := hO.cell 2
                have z3 : World.cell? wk ⟨zk, 3, none⟩ = some (.bool false) := hO.cell 3
                have z4 : World.cell? wk ⟨zk, 4, none⟩ = some (.slice dA d.length dc) := hO.cell 4
                have hba : Below wk.heap.size wk (wk.alloc (.cells #[.int .u64 g, .int .u64 n, .int .u8 p, .bool false, .slice dA d.length dc] 35)) := (Below.refl _ _).alloc (Nat.le_refl _) _
                have hnE := HNE.out (by first | rfl | trivial)
                have hmem : (⟨padT nl, g, n, p, d⟩ : En) ∈ sx.E := by
                  have h1 := HTH.out (by first | rfl | trivial)
                  rw [pget_in hnE] at h1
                  exact (eget_some h1).1
                have hnl32 := nameE_len hnE
                obtain ⟨A1, C1, v0, W0, L0, st, w1e, hrunE, hg1, hs1, hst, hkm1, hW0, hWL0, hsub, hapt, hpw, hL0, hL0n⟩ : ∃ (A1 C1 : List MR) (v0 : Value) (W0 : List (En × Value)) (L0 : List En) (st : Int) (w1e : World), (Instr.mapEntry 29 (.map (some pm)) (.agg (nkC (bstr nl) g))).run Try.prog (wk.alloc (.cells #[.int .u64 g, .int .u64 n, .int .u8 p, .bool false, .slice dA d.length dc] 35)) = .ok (.tuple #[v0, .int .i64 st]) w1e ∧ (wk.alloc (.cells #[.int .u64 g, .int .u64 n, .int .u8 p, .bool false, .slice dA d.length dc] 35)).grownBy w1e (some pm) ∧ w1e.heap.size = wk.heap.size + 1 ∧ (∀ (v : Value) (W : World), W.heap[pm]? = w1e.heap[pm]? → ∃ W', (Instr.entryStore 29 (.map (some pm)) (.int .i64 st) v).run Try.prog W = .ok () W' ∧ KM Try.prog 46 W' pm (A1.map mkv ++ (.agg (nkC (bstr nl) g), v) :: C1.map mkv) ∧ W.grownBy W' (some pm) ∧ W'.heap.size = W.heap.size) ∧ (∃ Lx, KM Try.prog 46 w1e pm Lx) ∧ OW wk w.heap.size v0 W0 ∧ W0.map (·.1) = L0 ∧ (∀ z ∈ A1 ++ C1, z ∈ MLc) ∧ (∀ z ∈ A1 ++ C1, v0.ownBlock = none ∨ z.v.ownBlock ≠ v0.ownBlock) ∧ (A1 ++ C1).Pairwise (fun a b => a.v.ownBlock ≠ b.v.ownBlock) ∧ (∀ y ∈ L0, (y ∈ sx.E ∧ y.t = padT nl ∧ y.g = g) ∧ U64 y.n) ∧ L0.length ≤ i := by
                  by_cases hex : ∃ m0 ∈ MLc, m0.r.k = nl ∧ m0.r.g = g
                  · obtain ⟨m0, hm0, hmk, hmg⟩ := hex
                    obtain ⟨A1, C1, hE1⟩ := List.append_of_mem hm0
                    have hKMa := hKM.alloc (.cells #[.int .u64 g, .int .u64 n, .int .u8 p, .bool false, .slice dA d.length dc] 35)
                    rw [hE1, List.map_append, List.map_cons, show mkv m0 = (.agg (nkC (bstr nl) g), m0.v) by unfold mkv; rw [hmk, hmg]] at hKMa
                    obtain ⟨st, w', h1, h2, h3, h4, h5⟩ := KM.entry_oldv hKMa law46 (t := 29) Try.underlying29
                    have hpw := HINV.out.2.2.2
                    rw [hE1] at hpw
                    have hok0 : m0.r.Ok sx := (HINV.out.2.2.1 m0 hm0).resolve_left (by simp)
                    refine ⟨A1, C1, m0.v, m0.W, m0.r.L, st, w', h1, h3, by rw [h4]; simp, h5, ⟨_, h2⟩, (HROW.out m0 hm0).1, (HROW.out m0 hm0).2, fun z hz => ?_, fun z hz => .inr ?_, hpw.sublist (List.Sublist.append (List.Sublist.refl A1) (List.sublist_cons_self _ _)), fun y hy => ⟨?_, hok0.nb y hy⟩, HML.out m0 (HINV.out.1 m0 hm0)⟩
                    · rw [hE1]; rcases List.mem_append.1 hz with h | h
                      · exact List.mem_append_left _ h
                      · exact List.mem_append_right _ (List.mem_cons_of_mem _ h)
                    · rw [List.pairwise_append] at hpw
                      rcases List.mem_append.1 hz with h | h
                      · exact hpw.2.2 z h m0 List.mem_cons_self
                      · exact fun e => (List.pairwise_cons.1 hpw.2.1).1 z h e.symm
                    · have := hok0.al y hy
                      rw [hmk, hmg] at this
                      exact this
                  · obtain ⟨st, w', h1, h2, h3, h4, h5⟩ := (hKM.alloc (.cells #[.int .u64 g, .int .u64 n, .int .u8 p, .bool false, .slice dA d.length dc] 35)).entry_newv law46 (t := 29) Try.underlying29 (slice_zero _) (key := .agg (nkC (bstr nl) g)) (ok_nk _ (by rw [bstr_size]; unfold maxLen; omega) hg) (fun x hx e => by
                      obtain ⟨z, hz, rfl⟩ := List.mem_map.1 hx
                      obtain ⟨h6, h7⟩ := nk_inj (by injection e)
                      exact hex ⟨z, hz, bstr_inj ((HINV.out.2.2.1 z hz).resolve_left (by simp)).kb HNK.out h6, h7⟩)
                    exact ⟨MLc, [], .slice none 0 0, [], [], st, w', h1, h3, by rw [h4]; simp, h5, ⟨_, h2⟩, OW.nil _ _, rfl, fun z hz => by simpa using hz, fun z hz => .inl rfl, by simpa using HINV.out.2.2.2, fun y hy => (by cases hy), by simp⟩
                obtain ⟨iO, hiO, hz0O, hz1O, hz2O⟩ := info_parts infoOb3
                have hncA : NC (wk.alloc (.cells #[.int .u64 g, .int .u64 n, .int .u8 p, .bool false, .slice dA d.length dc] 35)) pm := (hKM.alloc _).nc
                have hNBe := (Blk.new wk 35 #[.int .u64 g, .int .u64 n, .int .u8 p, .bool false, .slice dA d.length dc]).nc hncA hg1
                have hrv := rdv_ob hNBe
                have hWe := (hW0.below hba).nc hncA hg1
                have hWrow := hWe.row
                have hHe := (hH.kept hba).nc hncA hg1 HPX.out.1 HPX.out.2.1 HPX.out.2.2
                have hDe := (hD.below hba).nc hncA hg1
                have hbe := (hb.trans (hba.mono hb.size)).grown hg1 (Nat.le_trans hb.size hba.size) (fun b hb => by simp only [Option.some.injEq] at hb; rw [← hb]; exact HPB.out)
                have HROWe := Lib.hid (fun z (hz : z ∈ MLc) => ((HROW.out z hz).1.below hba).nc hncA hg1)
                obtain ⟨Lx, hx1⟩ := hkm1
                have hnc1 : NC w1e pm := hx1.nc
                have hpml := hx1.lt
                have hpmo := own_km_ne hWrow hx1
                have hWl : W0.length ≤ 50 := by have := congrArg List.length hWL0; rw [List.length_map] at this; omega
                have HSUB := Lib.hid hsub
                have HAPT := Lib.hid hapt
                have HL0 := Lib.hid hL0
                have HW0L := Lib.hid hWL0
                have HST := Lib.hid hst
                have HMEM := Lib.hid hmem
                clear hKM hH hO hN hD hb hsub hapt hL0 hWL0 hst hmem hW0 hba
                go_wp2_with (first | (refine wpList_mentry rfl 29 (.tmp 132) (.tmp 133) rfl (.map (some pm)) (.agg (nkC (bstr nl) g)) rfl rfl _ _ hrunE ?_) | (at_builtin; refine wpList_append_any _ rfl _ _ 44 rfl w.heap.size 35 iO _ 5 48 Try.underlying44 hiO hz0O hz1O hz2O rfl (by decide) v0 W0.length (flat5 W0) rfl hWrow (some ⟨wk.heap.size, 0, none⟩) 1 1 _ rfl hrv (oc5_one _ _ _ _ _ _) (by unfold maxLen; omega) (by omega) hbe.size (by simp) ?_; intro v6 w6 hown6 hgrow6 hat6; obtain ⟨wz, hrunS, hkS, hgS, hsS⟩ := HST.out v6 w6 (hgrow6.block pm hpml (fun e => hpmo e.symm))) | (refine wpList_mstore rfl 29 (.tmp 132) (.tmp 139) (.tmp 138) rfl (.map (some pm)) (.int .i64 st) v6 rfl rfl rfl _ hrunS ?_) | fail)
                go_meet
                have hnc6 : NC w6 pm := fun cs t fr e => hnc1 cs t fr (by rw [← hgrow6.block pm hpml (fun e => hpmo e.symm)]; exact e)
                obtain ⟨b6, hb6⟩ : ∃ b6, v6.ownBlock = some b6 := by
                  rcases hown6.2 with ⟨_, h0⟩ | ⟨g', cap', cur, e2, _⟩
                  · omega
                  · exact ⟨g', by rw [e2]; rfl⟩
                have hN6 : OW w6 w.heap.size v6 (W0 ++ [((⟨padT nl, g, n, p, d⟩ : En), .slice dA d.length dc)]) := ⟨by rw [List.length_append, flat5_app]; exact hown6, fun z hz => by
                  rcases List.mem_append.1 hz with hz | hz
                  · exact rdt_own (hWe.dat z hz) hWrow hgrow6 (by decide)
                  · simp only [List.mem_singleton] at hz
                    subst hz
                    exact rdt_own hDe hWrow hgrow6 (by decide)⟩
                refine ⟨sx, A1 ++ (⟨⟨nl, g, L0 ++ [(⟨padT nl, g, n, p, d⟩ : En)]⟩, v6, W0 ++ [((⟨padT nl, g, n, p, d⟩ : En), .slice dA d.length dc)]⟩ : MR) :: C1, (hHe.own hWrow hgrow6 (by decide) (by decide) (by decide)).nc hnc6 hgS HPX.out.1 HPX.out.2.1 HPX.out.2.2, hok', ⟨by rw [List.map_append, List.map_cons]; exact hkS, fun z hz => ?_, pw_ins (fun a b h e => h e.symm) hpw (fun z hz e => ?_)⟩, fun z hz => ?_, fun z hz => ?_, (hbe.grown hgrow6 hbe.size (fun b hb => own_ge hWrow hb)).grown hgS (Nat.le_trans hbe.size hgrow6.size) (fun b hb => by simp only [Option.some.injEq] at hb; rw [← hb]; exact HPB.out)⟩
                · have key : ∀ z ∈ A1 ++ C1, OW wz w.heap.size z.v z.W ∧ z.W.map (·.1) = z.r.L := fun z hz => ⟨((HROWe.out z (HSUB.out z hz)).grown hWrow hgrow6 (HAPT.out z hz) (by decide)).nc hnc6 hgS, (HROW.out z (HSUB.out z hz)).2⟩
                  rcases List.mem_append.1 hz with hz | hz
                  · exact key z (List.mem_append_left _ hz)
                  · rcases List.mem_cons.1 hz with rfl | hz
                    · exact ⟨hN6.nc hnc6 hgS, by show (W0 ++ [_]).map _ = L0 ++ [_]; rw [List.map_append, HW0L.out]; rfl⟩
                    · exact key z (List.mem_append_right _ hz)
                · have e' : z.v.ownBlock = v6.ownBlock := e
                  rcases hat6 with h | h
                  · rcases HAPT.out z hz with h2 | h2
                    · rw [h2] at h; rw [h] at hb6; cases hb6
                    · exact h2 (e'.trans h)
                  · have := own_lt (HROWe.out z (HSUB.out z hz)).row (e'.trans h)
                    omega
                · have key : ∀ z ∈ A1 ++ C1, z.r.Ok sx := fun z hz => (HINV.out.2.2.1 z (HSUB.out z hz)).resolve_left (by simp)
                  rcases List.mem_append.1 hz with hz | hz
                  · exact key z (List.mem_append_left _ hz)
                  · rcases List.mem_cons.1 hz with rfl | hz
                    · refine ⟨hnE, HNK.out, hg, by simp, by show (L0 ++ [_]).length ≤ 50; rw [List.length_append]; simp only [List.length_cons, List.length_nil]; omega, fun y hy => ?_, fun y hy => ?_⟩
                      · rcases List.mem_append.1 hy with hy | hy
                        · exact (HL0.out y hy).2
                        · simp only [List.mem_singleton] at hy; subst hy; exact hn
                      · rcases List.mem_append.1 hy with hy | hy
                        · exact (HL0.out y hy).1
                        · simp only [List.mem_singleton] at hy; subst hy; exact ⟨HMEM.out, rfl, rfl⟩
                    · exact key z (List.mem_append_right _ hz)
                · have key : ∀ z ∈ A1 ++ C1, z.r.L.length ≤ i + 1 := fun z hz => Nat.le_succ_of_le (HML.out z (HINV.out.1 z (HSUB.out z hz)))
                  rcases List.mem_append.1 hz with hz | hz
                  · exact key z (List.mem_append_left _ hz)
                  · rcases List.mem_cons.1 hz with rfl | hz
                    · show (L0 ++ [_]).length ≤ i + 1
                      rw [List.length_append]; simp only [List.length_cons, List.length_nil]; omega
                    · exact key z (List.mem_append_right _ hz)
              · obtain ⟨A', y, C', hMe, rfl, rfl, rfl⟩ := mkv_mid hM9
                have hyT : y ∈ TD := by rw [hMe]; simp
                have hyM := HINV.out.2.1 y hyT
                have hyO := HMO.out y (HINV.out.1 y hyM)
                obtain ⟨oi, si, seen, ci, hit⟩ := hKR.iter
                have hnc : NC wr it := fun cs t fr e => by rw [hit] at e; cases e
                obtain ⟨n1, n2, n3⟩ := hH.ne_it hit
                have hHn := hH.nc hnc hgn n1 n2 n3
                have hOn := hO.nc hnc hgn
                have hNn := hN.nc hnc hgn
                have hDn := hD.nc hnc hgn
                have hbn := hb.grown hgn hb.size (fun b hb => by simp only [Option.some.injEq] at hb; omega)
                have HROWn := Lib.hid (fun z (hz : z ∈ MLc) => And.intro ((HROW.out z hz).1.nc hnc hgn) (HROW.out z hz).2)
                have hen' : (Instr.entry (.pointer (some ⟨it, 0, none⟩))).run Try.prog wn = .ok (.tuple #[.agg (nkC (bstr y.r.k) y.r.g), y.v]) wn := hen
                have hba : Below wn.heap.size wn (wn.alloc (.cells (nkC (bstr y.r.k) y.r.g) 46)) := (Below.refl _ _).alloc (Nat.le_refl _) _
                have hMA := hKR.apart
                have HM9 := Lib.hid hM9
                have HME := Lib.hid hMe
                have HYO := Lib.hid hyO
                have HMA := Lib.hid hMA
                clear hsn hen hvL hKR hH hO hN hD hb hM9 hMe hyO hMA hgn hit hnc n1 n2 n3
                go_upto_region 20 with (first | (refine wpList_next rfl (.tmp 92) rfl _ rfl _ _ hrun ?_) | fail)
                clear hrun
                go_upto_region 21 with (first | (refine wpList_entry rfl (.tmp 92) rfl _ rfl _ _ hen' ?_) | (refine wpList_store_new rfl 46 (.tmp 15) (.tmp 96) rfl 46 _ (nkC (bstr y.r.k) y.r.g) rfl rfl (by rw [infoKT]; rfl) rfl (by simp [nkC, Value.oneCell']) ?_) | fail)
                have hWn := (HROWn.out y hyM).1
                have hWL := (HROWn.out y hyM).2
                have hLn : y.r.L ≠ [] := HYO.out.nn
                have hWpos : 0 < y.W.length := by rw [← List.length_map (f := (·.1)), hWL]; exact List.length_pos_iff.2 hLn
                obtain ⟨rb, rc, hyv⟩ : ∃ rb rc, y.v = .slice (some ⟨rb, 0, none⟩) y.W.length rc := by
                  rcases hWn.row.2 with ⟨_, h0⟩ | ⟨g', cap, cur, e2, _⟩
                  · omega
                  · exact ⟨g', cap, e2⟩
                obtain ⟨M, hM⟩ : ∃ M, M = y.W.length := ⟨_, rfl⟩
                rw [← hM] at hyv hWpos
                rw [hyv] at hWn ⊢
                have HM := Lib.hid hM
                have HYV := Lib.hid hyv
                have HWL := Lib.hid hWL
                have hMle : M ≤ 50 := by rw [hM, ← List.length_map (f := (·.1)), hWL]; exact HYO.out.le
                refine wp_world (fun wz => KR Try.prog 46 wz pm it (MLc.map mkv) (A'.map mkv ++ C'.map mkv) ∧ Hid (∀ y ∈ MLc, OW wz w.heap.size y.v y.W ∧ y.W.map (·.1) = y.r.L) ∧ OW wz w.heap.size (.slice (some ⟨rb, 0, none⟩) M rc) y.W ∧ Blk wz wn.heap.size 46 (nkC (bstr y.r.k) y.r.g) ∧ HS wz B sb lb zb tb r sx ∧ Blk wz zk 35 #[.int .u64 g, .int .u64 n, .int .u8 p, .bool false, .slice dA d.length dc] ∧ RdF wz (.slice qA m qc) nl ∧ RdT wz (.slice dA d.length dc) d ∧ Below w.heap.size w wz) ⟨hKRn.below hba, Lib.hid (fun z hz => ⟨(HROWn.out z hz).1.below hba, (HROWn.out z hz).2⟩), hWn.below hba, Blk.new wn 46 _, hHn.kept hba, hOn.same hba, hNn.below hba, hDn.below hba, hbn.trans (hba.mono hbn.size)⟩ ?_
                obtain ⟨kb, hkb⟩ : ∃ kb, kb = wn.heap.size := ⟨_, rfl⟩
                rw [← hkb]
                clear hKRn HROWn hWn hHn hOn hNn hDn hbn hba hen' hkb hM hyv hWL hLn
                rintro wx ⟨hKR, HROWx, hW, hKB, hH, hO, hN, hD, hb⟩
                obtain ⟨al, hal, hal1⟩ : ∃ al : Bool, (∀ x ∈ y.r.L, (pget sx y.r.k x.g x.n).isSome = al) ∧ (al = true → y.r.Ok sx) := by
                  rcases HGR.out (by first | rfl | trivial) y.r HYO.out with ⟨h1, h2⟩ | ⟨h1, h2⟩
                  · exact ⟨true, h1, fun _ => h2⟩
                  · exact ⟨false, h1, fun e => by cases e⟩
                have HAL := Lib.hid hal
                have HAL1 := Lib.hid hal1
                have HWX := Lib.hid hW
                have HKB := Lib.hid hKB
                have HHX := Lib.hid hH
                clear hal hal1
                have hk32 := nameE_len HYO.out.ne
                go_wp2_with fail
                go_loopg [17, 100] M (fun gk s17 s100 wr => ∃ (j : Nat) (c : Int), gk = M - j ∧ j ≤ M ∧ s100 = .int .i64 j ∧ s17 = .int .i64 c ∧ Hid (c = if al = true then (j : Int) else 0) ∧ 0 ≤ c ∧ c ≤ j ∧ Below wx.heap.size wx wr)
                case atStart => exact ⟨0, 0, rfl, Nat.zero_le _, rfl, rfl, Lib.hid (by simp), by omega, by omega, Below.refl _ _⟩
                case round =>
                  obtain ⟨j, c, hgkj, hjM, rfl, rfl, hcc, hc0, hcj, hbr⟩ := hrel
                  by_cases hltj : j < M
                  · obtain ⟨⟨x, xv⟩, hxv⟩ : ∃ z, z = y.W[j]'(by have := HM.out; omega) := ⟨_, rfl⟩
                    have hWr := HWX.out.below hbr
                    have hjW : j < y.W.length := by have := HM.out; omega
                    have hxm : (x, xv) ∈ y.W := by rw [hxv]; exact List.getElem_mem _
                    have hxL : x ∈ y.r.L := by rw [← HWL.out]; exact List.mem_map.2 ⟨_, hxm, rfl⟩
                    obtain ⟨xA, xc, hxf⟩ := (hWr.dat _ hxm).form
                    simp only at hxf
                    subst hxf
                    have e0 : World.cell? wr ⟨rb, j * 5, none⟩ = some (.int .u64 x.g) := by have h := hWr.cell hjW (j := 0) (by omega); rw [← hxv] at h; exact h
                    have e1 : World.cell? wr ⟨rb, j * 5 + 1, none⟩ = some (.int .u64 x.n) := by have h := hWr.cell hjW (j := 1) (by omega); rw [← hxv] at h; exact h
                    have e2 : World.cell? wr ⟨rb, j * 5 + 2, none⟩ = some (.int .u8 x.p) := by have h := hWr.cell hjW (j := 2) (by omega); rw [← hxv] at h; exact h
                    have e3 : World.cell? wr ⟨rb, j * 5 + 3, none⟩ = some (.bool false) := by have h := hWr.cell hjW (j := 3) (by omega); rw [← hxv] at h; exact h
                    have e4 : World.cell? wr ⟨rb, j * 5 + 4, none⟩ = some (.slice xA x.d.length xc) := by have h := hWr.cell hjW (j := 4) (by omega); rw [← hxv] at h; exact h
                    have hals := (HAL.out x hxL).symm
                    have hxg : U64 x.g := by rw [(HYO.out.al x hxL).2.2]; exact HYO.out.gb
                    have hxn : U64 x.n := HYO.out.nb x hxL
                    have HALS := Lib.hid hals
                    clear hxv hWr hxm hxL hals hjW
                    have hba : Below wr.heap.size wr (wr.alloc (.cells #[.int .u64 x.g, .int .u64 x.n, .int .u8 x.p, .bool false, .slice xA x.d.length xc] 35)) := (Below.refl _ _).alloc (Nat.le_refl _) _
                    go_upto_region 25 with fail
                    refine wp_world (fun wz => Below wx.heap.size wx wz ∧ Blk wz wr.heap.size 35 #[.int .u64 x.g, .int .u64 x.n, .int .u8 x.p, .bool false, .slice xA x.d.length xc]) ⟨hbr.trans (hba.mono hbr.size), Blk.new wr 35 #[.int .u64 x.g, .int .u64 x.n, .int .u8 x.p, .bool false, .slice xA x.d.length xc]⟩ ?_
                    obtain ⟨xb, hxb⟩ : ∃ xb, xb = wr.heap.size := ⟨_, rfl⟩
                    rw [← hxb]
                    clear e0 e1 e2 e3 e4 hba hbr hxb
                    rintro wy ⟨hby, hXb⟩
                    have k0 : World.cell? wy ⟨kb, 0, none⟩ = some (.string (bstr y.r.k)) := (HKB.out.same hby).cell 0
                    have hbs : (bstr y.r.k).size = y.r.k.length := bstr_size _
                    have hcv := conv_runS (bstr y.r.k)
                    rw [hbs] at hcv
                    clear hbs
                    have hbc := convS_below (bstr y.r.k) wy
                    have x0 : World.cell? (Lib.bytesWorld wy 5 (bstr y.r.k)) ⟨xb, 0, none⟩ = some (.int .u64 x.g) := (hXb.same hbc).cell 0
                    have x1 : World.cell? (Lib.bytesWorld wy 5 (bstr y.r.k)) ⟨xb, 1, none⟩ = some (.int .u64 x.n) := (hXb.same hbc).cell 1
                    have hHy := (HHX.out.kept hby).kept hbc
                    have hget := get_is B sb lb zb tb (.slice (some ⟨wy.heap.size, 0, none⟩) y.r.k.length (grownCap wy y.r.k.length 0 5)) r x.g x.n y.r.k sx (Lib.bytesWorld wy 5 (bstr y.r.k)) hHy (convS_rdf HYO.out.kb (by omega) wy).1 HYO.out.kb (by omega) hxg hxn hok' (by omega) al HALS.out
                    clear hHy HALS hxg hxn
                    cases al with
                    | true =>
                      go_wp2_with (first | (go_at_call 13; (with_reducible refine hget.mono ?_); clear hget; rintro e wg ⟨g', n', p', gA, ga, gc, rfl, hHg, hbg⟩) | fail)
                      go_roundg (M - (j + 1))
                      case measure => omega
                      case rel =>
                        have hbz := (hby.trans ((hbc.trans (hbg.mono hbc.size)).mono hby.size)).alloc (Nat.le_trans hby.size (Nat.le_trans hbc.size hbg.size)) (.cells #[.int .u64 g', .int .u64 n', .int .u8 p', .bool false, .slice gA ga gc] 35)
                        exact ⟨j + 1, c + 1, rfl, by omega, by go_num, rfl, Lib.hid (by rw [hcc.out]; simp), by omega, by omega, hbz⟩
                    | false =>
                      go_wp2_with (first | (go_at_call 13; (with_reducible refine hget.mono ?_); clear hget; rintro e wg ⟨g', n', p', gA, ga, gc, rfl, hHg, hbg⟩) | fail)
                      go_roundg (M - (j + 1))
                      case measure => omega
                      case rel =>
                        have hbz := (hby.trans ((hbc.trans (hbg.mono hbc.size)).mono hby.size)).alloc (Nat.le_trans hby.size (Nat.le_trans hbc.size hbg.size)) (.cells #[.int .u64 g', .int .u64 n', .int .u8 p', .bool false, .slice gA ga gc] 35)
                        exact ⟨j + 1, c, rfl, by omega, by go_num, rfl, Lib.hid (by rw [hcc.out]; simp), by omega, by omega, hbz⟩
                  · have hjj : j = M := by omega
                    have hTDl : TD.length = A'.length + 1 + C'.length := by rw [HME.out]; simp; omega
                    cases al with
                    | true =>
                      have hcM : c = (M : Int) := by rw [hcc.out, hjj]; rfl
                      subst hcM
                      have hM0 : ((M : Int) == 0) = false := by simp; omega
                      have hMM : ((M : Int) != (M : Int)) = false := by simp
                      clear hjj
                      go_wp2_with fail
                      go_roundg (A' ++ C').length
                      case measure => first | (rw [hgk9, hTDl, List.length_append]; omega) | (rw [List.length_append]; omega)
                      case rel => exact ⟨MLc, A' ++ C', rfl, by rw [List.map_append]; exact hKR.below hbr, Lib.hid (fun z hz => ⟨(HROWx.out z hz).1.below hbr, (HROWx.out z hz).2⟩), Lib.hid ⟨HINV.out.1, fun z hz => HINV.out.2.1 z (by rw [HME.out]; rcases List.mem_append.1 hz with h | h; exact List.mem_append_left _ h; exact List.mem_append_right _ (List.mem_cons_of_mem _ h)), fun z hz => (HINV.out.2.2.1 z hz).elim (fun h => by rw [HME.out] at h; rcases List.mem_append.1 h with h | h; exact .inl (List.mem_append_left _ h); rcases List.mem_cons.1 h with h | h; (rw [h]; exact .inr (HAL1.out (by first | rfl | trivial))); exact .inl (List.mem_append_right _ h)) .inr, HINV.out.2.2.2⟩, hH.kept hbr, hO.same hbr, hN.below hbr, hD.below hbr, hb.trans (hbr.mono hb.size)⟩
                    | false =>
                      have hcM : c = 0 := by rw [hcc.out]; rfl
                      subst hcM
                      obtain ⟨A1, C1, hE1⟩ := List.append_of_mem hyM
                      have hEm : MLc.map mkv = A1.map mkv ++ mkv y :: C1.map mkv := by rw [hE1]; simp
                      have hKRr := hKR.below hbr
                      have hKd : KR Try.prog 46 wr pm it (A1.map mkv ++ (.agg (nkC (bstr y.r.k) y.r.g), y.v) :: C1.map mkv) (A'.map mkv ++ C'.map mkv) := by rw [hEm] at hKRr; exact hKRr
                      have hdT := HMA.out
                      rw [HME.out, List.map_append, List.map_cons, List.map_append, List.map_cons, List.nodup_append] at hdT
                      have hdE := hKR.km.apart
                      rw [hEm, List.map_append, List.map_cons, List.nodup_append] at hdE
                      obtain ⟨wd, hdrun, hKRd, hgd, hsd⟩ := hKd.drop law46 (t := 29) Try.underlying29 (fun z hz => by
                        rcases List.mem_append.1 hz with hz | hz
                        · exact fun e => hdT.2.2 _ (List.mem_map.2 ⟨z, hz, rfl⟩) _ List.mem_cons_self e
                        · exact fun e => (List.nodup_cons.1 hdT.2.1).1 (by show (mkv y).1 ∈ _; rw [show (mkv y).1 = z.1 from e.symm]; exact List.mem_map.2 ⟨z, hz, rfl⟩)) 0
                      have hncp : NC wr pm := hKRr.km.nc
                      have k0 : World.cell? wr ⟨kb, 0, none⟩ = some (.string (bstr y.r.k)) := (HKB.out.same hbr).cell 0
                      have k1 : World.cell? wr ⟨kb, 1, none⟩ = some (.int .u64 y.r.g) := (HKB.out.same hbr).cell 1
                      have hz0 : ((0 : Int) == 0) = true := rfl
                      have HDT := Lib.hid hdT
                      have HDE := Lib.hid hdE
                      have HE1 := Lib.hid hE1
                      clear hEm hKd hKRr hdT hdE hE1 hsd hjj
                      go_wp2_with (first | (refine wpList_mdel rfl 29 46 (.tmp 120) (.tmp 121) rfl (.map (some pm)) (.agg (nkC (bstr y.r.k) y.r.g)) rfl rfl _ _ hdrun ?_) | fail)
                      go_roundg (A' ++ C').length
                      case measure => first | (rw [hgk9, hTDl, List.length_append]; omega) | (rw [List.length_append]; omega)
                      case rel =>
                        have hsub : ∀ z ∈ A1 ++ C1, z ∈ MLc := fun z hz => by rw [HE1.out]; rcases List.mem_append.1 hz with h | h; exact List.mem_append_left _ h; exact List.mem_append_right _ (List.mem_cons_of_mem _ h)
                        have hny : ∀ z ∈ A1 ++ C1, z ≠ y := fun z hz e => by
                          subst e
                          rcases List.mem_append.1 hz with h | h
                          · exact HDE.out.2.2 _ (List.mem_map.2 ⟨mkv z, List.mem_map.2 ⟨z, h, rfl⟩, rfl⟩) _ List.mem_cons_self rfl
                          · exact (List.nodup_cons.1 HDE.out.2.1).1 (List.mem_map.2 ⟨mkv z, List.mem_map.2 ⟨z, h, rfl⟩, rfl⟩)
                        refine ⟨A1 ++ C1, A' ++ C', rfl, by rw [List.map_append, List.map_append]; exact hKRd, Lib.hid (fun z hz => ⟨((HROWx.out z (hsub z hz)).1.below hbr).nc hncp hgd, (HROWx.out z (hsub z hz)).2⟩), Lib.hid ⟨fun z hz => HINV.out.1 z (hsub z hz), fun z hz => ?_, fun z hz => ?_, ?_⟩, (hH.kept hbr).nc hncp hgd HPX.out.1 HPX.out.2.1 HPX.out.2.2, (hO.same hbr).nc hncp hgd, (hN.below hbr).nc hncp hgd, (hD.below hbr).nc hncp hgd, (hb.trans (hbr.mono hb.size)).grown hgd (Nat.le_trans hb.size hbr.size) (fun b hb => by simp only [Option.some.injEq] at hb; rw [← hb]; exact HPB.out)⟩
                        · have hzM : z ∈ MLc := HINV.out.2.1 z (by rw [HME.out]; rcases List.mem_append.1 hz with h | h; exact List.mem_append_left _ h; exact List.mem_append_right _ (List.mem_cons_of_mem _ h))
                          rw [HE1.out] at hzM
                          rcases List.mem_append.1 hzM with h | h
                          · exact List.mem_append_left _ h
                          · rcases List.mem_cons.1 h with h | h
                            · subst h
                              exfalso
                              rcases List.mem_append.1 hz with h2 | h2
                              · exact HDT.out.2.2 _ (List.mem_map.2 ⟨mkv z, List.mem_map.2 ⟨z, h2, rfl⟩, rfl⟩) _ List.mem_cons_self rfl
                              · exact (List.nodup_cons.1 HDT.out.2.1).1 (List.mem_map.2 ⟨mkv z, List.mem_map.2 ⟨z, h2, rfl⟩, rfl⟩)
                            · exact List.mem_append_right _ h
                        · rcases HINV.out.2.2.1 z (hsub z hz) with h | h
                          · rw [HME.out] at h
                            rcases List.mem_append.1 h with h | h
                            · exact .inl (List.mem_append_left _ h)
                            · rcases List.mem_cons.1 h with h | h
                              · exact absurd h (hny z hz)
                              · exact .inl (List.mem_append_right _ h)
                          · exact .inr h
                        · have := HINV.out.2.2.2
                          rw [HE1.out] at this
                          exact this.sublist (List.Sublist.append (List.Sublist.refl A1) (List.sublist_cons_self _ _))
          · have hcb : (cd == 0) = false := by simpa using hc0
            go_wp2_with fail
            go_meet
            have e1 : sx = s := HSM.out hc0
            subst e1
            exact ⟨sx, ML, hH, hok, hM, HMO.out, fun m hm => Nat.le_succ_of_le (HML.out m hm), hb⟩
        clear hH hM hO hN hD hb hok'
        obtain ⟨w8, hwe⟩ : ∃ x, x = wc := ⟨_, rfl⟩
        subst hwe
        obtain ⟨s', ML', hH, hok', hM, hMO', hML', hb⟩ := hcut
        have hus := used_any B sb lb zb tb r s' w8 hH
        obtain ⟨uu, huu⟩ : ∃ uu, uu = s'.used := ⟨_, rfl⟩
        have hfit : uu ≤ r := by rw [huu]; exact hok'.fit
        rw [← huu] at hus
        clear huu
        have hdu : decide (r < uu) = false := decide_eq_false (by omega)
        have HMO' := Lib.hid hMO'
        have HML' := Lib.hid hML'
        clear hMO' hML'
        go_wp2_with (first | (go_at_call 15; (with_reducible refine hus.mono ?_); clear hus; rintro e w9 ⟨rfl, hH9, hb9⟩) | fail)
        go_roundg (N - (i + 1))
        case measure => omega
        case rel => exact ⟨i + 1, s', ML', rfl, by omega, by go_num, hH9, hok', hM.below hb9, HMO'.out, HML'.out, by omega, hb.trans (hb9.mono hb.size)⟩
    · go_wp2_with fail
      go_ret
      exact ⟨rfl, hb⟩

end Go.Proofs.Ytiaabbflchdcbaa
