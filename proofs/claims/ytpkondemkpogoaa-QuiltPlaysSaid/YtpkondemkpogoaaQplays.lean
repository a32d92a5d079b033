/-
  QuiltPlays: every script of pieces that come in any order, overlapping, twice, of ends, and of what is read has the document's answers; pieces come back untouched, and aren't kept; a nil quilt's, too.
-/
import Derived.Test.YtpkondemkpogoaaRref6
import Derived.Test.YtpkondemkpogoaaQops
import Derived.Test.YtpkondemkpogoaaQsums
namespace Go.Proofs.Ytpkondemkpogoaa
open Go.RowKit
set_option linter.unusedVariables false
set_option linter.unusedSimpArgs false

/-- What holds between the steps. -/
structure PL (B : Nat) (w0 w : World) (gq gx mb : Nat) (q : Q) (es : List (Int × Int)) (n : Nat) : Prop where
  qp : QP (fun _ => True) B w gq q
  rx : RX w gx mb es q
  xr : XR es q
  qi : QI q
  hh : hld q.L ≤ 60 * n
  he : es.length ≤ 60 * n
  be : Below w0.heap.size w0 w
  sz : B ≤ w.heap.size
theorem PL.below {B : Nat} {w0 w w' : World} {gq gx mb : Nat} {q : Q} {es : List (Int × Int)} {n : Nat} (h : PL B w0 w gq gx mb q es n) (hb : Below w.heap.size w w') : PL B w0 w' gq gx mb q es n :=
  ⟨h.qp.below hb, h.rx.below hb, h.xr, h.qi, h.hh, h.he, h.be.trans (hb.mono h.be.size), Nat.le_trans h.sz hb.size⟩
theorem PL.up {B : Nat} {w0 w : World} {gq gx mb : Nat} {q : Q} {es : List (Int × Int)} {n k : Nat} (h : PL B w0 w gq gx mb q es n) (hk : n ≤ k) : PL B w0 w gq gx mb q es k :=
  ⟨h.qp, h.rx, h.xr, h.qi, Nat.le_trans h.hh (by omega), Nat.le_trans h.he (by omega), h.be, h.sz⟩
/-- The reference's Put turns its block and its map alone. -/
theorem QP.rput {S : Nat → Prop} {B : Nat} {w wm w' : World} {g gx mb : Nat} {q : Q} {es : List (Int × Int)} (h : QP S B w g q) (hm : RMap w mb es) (h1 : w.grownBy wm (some mb)) (h2 : wm.grownBy w' (some gx)) (h3 : ∃ cs, Blk wm gx 59 cs) : QP S B w' g q := by
  obtain ⟨cs, h3⟩ := h3
  exact (h.map hm h1).blk h3 (by decide) (by decide) (by decide) h2
theorem own_rput {w wm w' : World} {base size n gx mb : Nat} {e : TypeId} {v : Value} {xs : List Value} {es : List (Int × Int)} (h : w.ownsRow base e size v n xs) (he : e ≠ 59) (hm : RMap w mb es) (h1 : w.grownBy wm (some mb)) (h2 : wm.grownBy w' (some gx)) (h3 : ∃ cs, Blk wm gx 59 cs) : w'.ownsRow base e size v n xs := by
  obtain ⟨cs, h3⟩ := h3
  have k1 := own_grown h h1 (.inr (own_rmap_ne h hm))
  exact own_grown k1 h2 (.inr (own_blk_ne k1 h3 he))
theorem blk_rput {w wm w' : World} {b gx mb : Nat} {t : TypeId} {c : Array Value} {es : List (Int × Int)} (h : Blk w b t c) (ht : t ≠ 59) (hm : RMap w mb es) (h1 : w.grownBy wm (some mb)) (h2 : wm.grownBy w' (some gx)) (h3 : ∃ cs, Blk wm gx 59 cs) : Blk w' b t c := by
  obtain ⟨cs, h3⟩ := h3
  have k1 := h.grown h1 (by simpa using blk_rmap_ne h hm)
  exact k1.grown h2 (by simpa using k1.ne_ h3 ht)
theorem below_rput {b : Nat} {w0 w wm w' : World} {gx mb : Nat} (h : Below b w0 w) (hs : b ≤ w.heap.size) (h1 : w.grownBy wm (some mb)) (h2 : wm.grownBy w' (some gx)) (hb : b ≤ mb) (hg : b ≤ gx) : Below b w0 w' :=
  (h.grown h1 hs (fun k hk => by simp only [Option.some.injEq] at hk; omega)).grown h2 (Nat.le_trans hs h1.size) (fun k hk => by simp only [Option.some.injEq] at hk; omega)
theorem own_low {w : World} {base n size : Nat} {e : TypeId} {v : Value} {xs : List Value} (h : w.ownsRow base e size v n xs) : w.ownsRow 0 e size v n xs := by
  refine ⟨h.1, ?_⟩
  rcases h.2 with h2 | ⟨g, cap, cur, rfl, hg, r⟩
  · exact .inl h2
  · exact .inr ⟨g, cap, cur, rfl, Nat.zero_le _, r⟩
set_option maxHeartbeats 16000000 in
set_option maxRecDepth 100000 in
theorem plays_walk (A : Option Addr) (N cap : Nat) (w : World) (hp : Ops w A N) (hnc : N ≤ cap) (hcm : cap ≤ maxLen) :
    Calls Try.prog 7 #[.bool false, .slice A N cap] w fun e w' => e = .returned (.bool true) ∧ Below w.heap.size w w' := by
  have hcm' : cap ≤ 9223372036854775807 := by unfold maxLen at hcm; omega
  have haw := awake_any w
  go_enter Try.func7, Try.ntmps7
  go_wp2_with fail
  (with_reducible refine haw.mono ?_)
  rintro e w1 ⟨rfl, hB1⟩
  clear haw
  go_wp2_with fail
  (with_reducible refine (new_lawP (fun _ => True) _).mono ?_)
  rintro e w2 ⟨rfl, hQ2, hb2⟩
  obtain ⟨B, hBB⟩ : ∃ B, B = w1.heap.size := ⟨_, rfl⟩
  have hBw : w.heap.size ≤ B := by rw [hBB]; exact hB1.size
  have hs2 : B ≤ w2.heap.size := by rw [hBB]; exact hb2.size
  have hB2 : Below w.heap.size w w2 := hB1.trans (hb2.mono hB1.size)
  rw [← hBB] at hQ2
  clear hB1 hb2
  go_wp2_with fail
  rw [← hBB]
  clear hBB
  (with_reducible refine (rnew_law w2).mono ?_)
  rintro e w3 ⟨rfl, hX3, hb3⟩
  obtain ⟨mb, hmb⟩ : ∃ mb, mb = w2.heap.size := ⟨_, rfl⟩
  obtain ⟨gx, hgx⟩ : ∃ gx, gx = w2.heap.size + 1 := ⟨_, rfl⟩
  have hmw : w.heap.size ≤ mb := by omega
  have hgw : w.heap.size ≤ gx := by omega
  rw [← hgx, ← hmb] at hX3
  have hP3 : PL B w w3 B gx mb Q.new [] 0 := ⟨hQ2.below hb3, hX3, xr_new, QI.new, Nat.le_refl _, Nat.le_refl _, hB2.trans (hb3.mono hB2.size), Nat.le_trans hs2 hb3.size⟩
  rw [← hgx]
  clear hmb hgx hQ2 hX3 hB2 hs2 hb3
  obtain ⟨gq, hgq⟩ : ∃ gq, gq = B := ⟨_, rfl⟩
  have hP3' : PL B w w3 gq gx mb Q.new [] 0 := by rw [hgq]; exact hP3
  rw [show (Value.pointer (some (⟨B, 0, none⟩ : Addr))) = .pointer (some ⟨gq, 0, none⟩) by rw [hgq]]
  clear hP3 hgq
  go_wp2_with fail
  go_loopw [26] (fun s26 wr => ∃ (i : Nat) (q : Q) (es : List (Int × Int)), s26 = .int .i64 i ∧ i ≤ N ∧ PL B w wr gq gx mb q es (min i 40)) (fun s26 _ => N - (intOf s26).toNat)
  case atStart => exact ⟨0, Q.new, [], rfl, Nat.zero_le _, hP3'⟩
  case round =>
    clear hP3'
    obtain ⟨i, q, es, rfl, hin, hP⟩ := hrel
    by_cases hi : i < N
    · obtain ⟨b, off, oo, rfl, hbl, hok, hc⟩ := (hp.below hP.be) i hi
      obtain ⟨d_, of, vv, ll, en_, mm⟩ := oo
      obtain ⟨hdo, hof, ⟨hrv, hbv⟩, hmm⟩ := hok
      simp only at hdo hof hrv hbv hmm
      obtain ⟨VA, vc, rfl⟩ := hrv.form
      have c0 : wr.cell? ⟨b, off + i * 5, none⟩ = some (.int .u8 d_) := hc 0 (by decide)
      have c1 : wr.cell? ⟨b, off + i * 5 + 1, none⟩ = some (.int .u64 of) := hc 1 (by decide)
      have c2 : wr.cell? ⟨b, off + i * 5 + 2, none⟩ = some (.slice VA ll.length vc) := hc 2 (by decide)
      have c3 : wr.cell? ⟨b, off + i * 5 + 3, none⟩ = some (.bool en_) := hc 3 (by decide)
      have c4 : wr.cell? ⟨b, off + i * 5 + 4, none⟩ = some (.int .i64 mm) := hc 4 (by decide)
      have hiI : (i : Int) < (N : Int) := by omega
      clear hc
      have HPP := Lib.hid hp
      clear hp
      by_cases h40 : i < 40
      · have h40I : ¬ (40 : Int) ≤ (i : Int) := by omega
        have htm7 : d_.tmod 7 = d_ % 7 := Int.tmod_eq_emod_of_nonneg hdo.1
        have hmin : min i 40 = i := by omega
        have hmin1 : min (i + 1) 40 = i + 1 := by omega
        rw [hmin] at hP
        have HM1 := Lib.hid hmin1
        clear hmin hmin1
        obtain ⟨ob, hob⟩ : ∃ ob, ob = wr.heap.size := ⟨_, rfl⟩
        have hba : Below wr.heap.size wr (wr.alloc (.cells #[.int .u8 d_, .int .u64 of, .slice VA ll.length vc, .bool en_, .int .i64 mm] 44)) := (Below.refl _ _).alloc (Nat.le_refl _) _
        have hYb : Blk (wr.alloc (.cells #[.int .u8 d_, .int .u64 of, .slice VA ll.length vc, .bool en_, .int .i64 mm] 44)) ob 44 #[.int .u8 d_, .int .u64 of, .slice VA ll.length vc, .bool en_, .int .i64 mm] := by rw [hob]; exact Blk.new _ _ _
        have hPb := hP.below hba
        have hobB : B ≤ ob := by rw [hob]; exact hP.sz
        have hcu := cut_any (.slice VA ll.length vc) ll 60 (wr.alloc (.cells #[.int .u8 d_, .int .u64 of, .slice VA ll.length vc, .bool en_, .int .i64 mm] 44)) (hrv.below hba) (by decide)
        have HY := Lib.hid hYb
        have HPb := Lib.hid hPb
        have HPr := Lib.hid hP
        clear hba hYb hPb hP hrv
        obtain ⟨t, ht⟩ : ∃ t, t = ll.take 60 := ⟨_, rfl⟩
        have htl : t.length ≤ 60 := by rw [ht, List.length_take]; omega
        have hbt : BytesOk t := by rw [ht]; exact hbv.take 60
        rw [← ht] at hcu
        clear ht
        go_wp2_with fail
        refine hcu.mono ?_
        rintro e w3 ⟨v3, rfl, ho3, hb3⟩
        rw [← hob]
        have hP3 := HPb.out.below hb3
        have hY3 := HY.out.same hb3
        have hr3 := rd_of_own (k := .u8) ho3
        obtain ⟨A3, cc3, rfl, _⟩ := sl_of_own ho3
        have hcp := copy_any _ t w3 hr3 (by omega)
        have hob3 : ob < w3.heap.size := hY3.lt
        have HOB := Lib.hid hob
        clear hcu HY HPb hb3 hr3 c0 c1 c2 c3 c4 hob
        go_wp2_with fail
        (with_reducible refine hcp.mono ?_)
        rintro e w4 ⟨v4, rfl, ho4, hb4⟩
        have hP4 := hP3.below hb4
        have hY4 := hY3.same hb4
        have hO4 := own_same ho3 hb4
        have hQS4 : QP (fun b => b < w3.heap.size) B w4 gq q := (hP3.qp.mono (fun b hb _ => hb)).below hb4
        have hs3w : w.heap.size ≤ w3.heap.size := hP3.be.size
        have h34 : w3.heap.size ≤ w4.heap.size := hb4.size
        obtain ⟨A4, cc4, rfl, _⟩ := sl_of_own ho4
        have x0 : w4.cell? ⟨ob, 0, none⟩ = some (.int .u8 d_) := hY4.cell 0
        have c1 : w4.cell? ⟨ob, 1, none⟩ = some (.int .u64 of) := hY4.cell 1
        have c3 : w4.cell? ⟨ob, 3, none⟩ = some (.bool en_) := hY4.cell 3
        have c4 : w4.cell? ⟨ob, 4, none⟩ = some (.int .i64 mm) := hY4.cell 4
        clear hcp hP3 hY3 ho3 hb4
        go_upto_block 2 with (fail)
        go_cut [11, 12, 13, 14, 15, 16, 26] from 26 to 193 (fun s11 s12 s13 s14 s15 s16 s26 wx => s11 = .bool true ∧ s26 = .int .i64 i ∧ ∃ (q' : Q) (es' : List (Int × Int)), PL B w wx gq gx mb q' es' (i + 1))
        case first =>
          have hQ4 := hP4.qp
          have hX4 := hP4.rx
          have hR := hP4.xr
          have hI := hP4.qi
          have hB4 := hP4.be
          have hs4 := hP4.sz
          have hhd := hP4.hh
          have hhe := hP4.he
          have hQd : QP (fun _ => True) B w4.drew gq q := hQ4.below (below_drewN (Below.refl _ _) 1)
          have hXd : RX w4.drew gx mb es q := hX4.below (below_drewN (Below.refl _ _) 1)
          have hYd : Blk w4.drew ob 44 #[.int .u8 d_, .int .u64 of, .slice VA ll.length vc, .bool en_, .int .i64 mm] := hY4
          have hBd : Below w.heap.size w w4.drew := hB4.trans ((below_drewN (Below.refl _ w4) 1).mono hB4.size)
          have hsd : B ≤ w4.drew.heap.size := hs4
          by_cases hd4 : d_ % 7 = 4
          · as_aux_lemma =>
              go_wp2_with fail
              refine wp_region_held_drew (S := fun w' => w'.cell? ⟨ob, 1, none⟩ = some (.int .u64 of)) (by kernel_rfl) (by first | exact c1 | exact a1 | exact b1) (fun _ => ?_)
              refine wpAnyH_take (i := 0) (oi := ({ dst := some 75, op := Op.move (Operand.tmp 5), type := 25, pos := _, after := #[], guard := none } : Oper)) (v := ?_) rfl (by kernel_rfl) (by kernel_rfl) (by kernel_rfl) (fun _ _ _ h => h) (Or.inl ⟨by rfl, ?_⟩) (by first | exact c1 | exact a1 | exact b1) ?_
              rotate_left
              · intro w hSw
                try dsimp only at hSw
                go_simp
                try with_reducible rfl
              try simp only [Act.put, List.setIfInBounds_toArray, List.set_cons_zero, List.set_cons_succ]
              refine wpAnyH_take (i := 1) (oi := ({ dst := some 76, op := Op.fieldAddr 44 (Operand.tmp 8) 1, type := 0, pos := _, after := #[], guard := none } : Oper)) (v := ?_) rfl (by kernel_rfl) (by kernel_rfl) (by kernel_rfl) (fun _ _ _ h => h) (Or.inl ⟨by rfl, ?_⟩) (by first | exact c1 | exact a1 | exact b1) ?_
              rotate_left
              · intro w hSw
                try dsimp only at hSw
                go_simp
                try with_reducible rfl
              try simp only [Act.put, List.setIfInBounds_toArray, List.set_cons_zero, List.set_cons_succ]
              refine wpAnyH_take (i := 2) (oi := ({ dst := some 77, op := Op.load 27 (Operand.tmp 76), type := 27, pos := _, after := #[{ on := 1, ground := Ground.data }], guard := none } : Oper)) (v := ?_) rfl (by kernel_rfl) (by kernel_rfl) (by kernel_rfl) (fun _ _ _ h => h) (Or.inl ⟨by rfl, ?_⟩) (by first | exact c1 | exact a1 | exact b1) ?_
              rotate_left
              · intro w hSw
                try dsimp only at hSw
                go_simp
                try with_reducible rfl
              try simp only [Act.put, List.setIfInBounds_toArray, List.set_cons_zero, List.set_cons_succ]
              refine wpAnyH_take (i := 4) (oi := ({ dst := some 79, op := Op.move (Operand.tmp 6), type := 50, pos := _, after := #[], guard := none } : Oper)) (v := ?_) rfl (by kernel_rfl) (by kernel_rfl) (by kernel_rfl) (fun _ _ _ h => h) (Or.inl ⟨by rfl, ?_⟩) (by first | exact c1 | exact a1 | exact b1) ?_
              rotate_left
              · intro w hSw
                try dsimp only at hSw
                go_simp
                try with_reducible rfl
              try simp only [Act.put, List.setIfInBounds_toArray, List.set_cons_zero, List.set_cons_succ]
              refine wpAnyH_take (i := 5) (oi := ({ dst := some 80, op := Op.fieldAddr 44 (Operand.tmp 8) 1, type := 0, pos := _, after := #[], guard := none } : Oper)) (v := ?_) rfl (by kernel_rfl) (by kernel_rfl) (by kernel_rfl) (fun _ _ _ h => h) (Or.inl ⟨by rfl, ?_⟩) (by first | exact c1 | exact a1 | exact b1) ?_
              rotate_left
              · intro w hSw
                try dsimp only at hSw
                go_simp
                try with_reducible rfl
              try simp only [Act.put, List.setIfInBounds_toArray, List.set_cons_zero, List.set_cons_succ]
              refine wpAnyH_take (i := 6) (oi := ({ dst := some 81, op := Op.load 27 (Operand.tmp 80), type := 27, pos := _, after := #[{ on := 5, ground := Ground.data }], guard := none } : Oper)) (v := ?_) rfl (by kernel_rfl) (by kernel_rfl) (by kernel_rfl) (fun _ _ _ h => h) (Or.inl ⟨by rfl, ?_⟩) (by first | exact c1 | exact a1 | exact b1) ?_
              rotate_left
              · intro w hSw
                try dsimp only at hSw
                go_simp
                try with_reducible rfl
              try simp only [Act.put, List.setIfInBounds_toArray, List.set_cons_zero, List.set_cons_succ]
              refine wpAnyH_ready (rs := [3]) (by kernel_rfl) (by simp) ?_
              refine AllReadyH.cons (o := ({ dst := some 78, op := Op.call { callee := Callee.value (Operand.func 23), args := #[Operand.tmp 75, Operand.tmp 77], argTypes := #[25, 27] }, type := 28, pos := _, after := #[{ on := 0, ground := Ground.data }, { on := 2, ground := Ground.data }], guard := none } : Oper)) rfl (fun K hK => ?_) AllReadyH.nil
              go_simp
              go_at_call 23
              refine (close_lawP (fun _ => True) B gq q of w4.drew hQd hI (by omega) hsd hof).mono ?_
              rintro e w5 ⟨rfl, hQ5, hb5, hk5, hm5⟩
              have hX5 := hXd.keep hk5 hm5
              have hY5 := hk5 _ _ _ hYd (by decide) (by decide)
              have hB5 := hBd.trans (hb5.mono hBw)
              have hs5 : B ≤ w5.heap.size := Nat.le_trans hsd hb5.size
              have a1 : w5.cell? ⟨ob, 1, none⟩ = some (.int .u64 of) := hY5.cell 1
              have hRP := Lib.hid (rput_all gx mb es q of (.slice none 0 0) [] true w5 hX5 hR hI (RdT.nil _) (fun x hx => by simp at hx) (by decide) hof (by omega))
              refine hK.out _ _ (by first | exact c1 | exact a1 | exact b1) (fun _ => ?_)
              clear hK K
              try simp only [Act.put, List.setIfInBounds_toArray, List.set_cons_zero, List.set_cons_succ]
              refine wpAnyH_ready (rs := [7]) (by kernel_rfl) (by simp) ?_
              refine AllReadyH.cons (o := ({ dst := some 82, op := Op.call { callee := Callee.value (Operand.func 24), args := #[Operand.tmp 79, Operand.tmp 81, Operand.const (Value.slice none 0 0), Operand.const (Value.bool true)], argTypes := #[50, 27, 22, 4] }, type := 3, pos := _, after := #[{ on := 4, ground := Ground.data }, { on := 6, ground := Ground.data }, { on := 3, ground := Ground.chain }], guard := none } : Oper)) rfl (fun K hK => ?_) AllReadyH.nil
              go_simp
              go_at_call 24
              (with_reducible refine hRP.out.mono ?_)
              rintro e w6 ⟨rfl, es', hX6, hR6, hl6, wm, hg6, hh6, hc6⟩
              have hQ6 := (QP.rput hQ5 hX5.2 hg6 hh6 hc6).mono (S' := fun _ => True) (fun _ _ _ => trivial)
              have hY6 := blk_rput hY5 (by decide) hX5.2 hg6 hh6 hc6
              have hB6 := below_rput hB5 hB5.size hg6 hh6 hmw hgw
              have hs6 : B ≤ w6.heap.size := Nat.le_trans hs5 (Nat.le_trans hg6.size hh6.size)
              have b1 : w6.cell? ⟨ob, 1, none⟩ = some (.int .u64 of) := hY6.cell 1
              refine hK.out _ _ (by first | exact c1 | exact a1 | exact b1) (fun _ => ?_)
              clear hK K
              try simp only [Act.put, List.setIfInBounds_toArray, List.set_cons_zero, List.set_cons_succ]
              refine wpAnyH_take (i := 8) (oi := ({ dst := some 83, op := Op.binOp BinOp.eql 3 (Operand.tmp 78) (Operand.tmp 82) 3, type := 4, pos := _, after := #[{ on := 3, ground := Ground.data }, { on := 7, ground := Ground.data }], guard := none } : Oper)) (v := ?_) rfl (by kernel_rfl) (by kernel_rfl) (by kernel_rfl) (fun _ _ _ h => h) (Or.inl ⟨by rfl, ?_⟩) (by first | exact c1 | exact a1 | exact b1) ?_
              rotate_left
              · intro w hSw
                try dsimp only at hSw
                go_simp
                try with_reducible rfl
              try simp only [Act.put, List.setIfInBounds_toArray, List.set_cons_zero, List.set_cons_succ]
              refine wpAnyH_take (i := 9) (oi := ({ dst := some 11, op := Op.assign (Operand.tmp 83), type := 4, pos := _, after := #[{ on := 8, ground := Ground.data }, { on := 7, ground := Ground.chain }, { on := 0, ground := Ground.phase }, { on := 1, ground := Ground.phase }, { on := 2, ground := Ground.phase }, { on := 3, ground := Ground.phase }, { on := 4, ground := Ground.phase }, { on := 5, ground := Ground.phase }, { on := 6, ground := Ground.phase }, { on := 7, ground := Ground.phase }, { on := 8, ground := Ground.phase }], guard := none } : Oper)) (v := ?_) rfl (by kernel_rfl) (by kernel_rfl) (by kernel_rfl) (fun _ _ _ h => h) (Or.inl ⟨by rfl, ?_⟩) (by first | exact c1 | exact a1 | exact b1) ?_
              rotate_left
              · intro w hSw
                try dsimp only at hSw
                go_simp
                try with_reducible rfl
              try simp only [Act.put, List.setIfInBounds_toArray, List.set_cons_zero, List.set_cons_succ]
              refine wpAnyH_done (by kernel_rfl) ?_ _
              go_wp2_with fail
              go_meet
              case rel =>
                have hph := Q.put_hld q of [] true
                have hlz : ([] : List Int).length = 0 := rfl
                exact ⟨rfl, rfl, _, es', hQ6, hX6, hR6, hI.put hof.1 (fun x hx => by simp at hx), by omega, by omega, hB6, hs6⟩
          · by_cases hd5 : 5 ≤ d_ % 7
            · have htp := take_lawP (fun _ => True) B gq q mm w4 hQ4 hI (by omega) hs4 hmm
              have hbb : ((q.take mm).done == (q.take mm).done) = true := by simp
              have h56 : d_ % 7 = 5 ∨ d_ % 7 = 6 := by omega
              have hIt := (hI.take mm).1
              have hht := (hI.take mm).2.1
              have HI := Lib.hid hI
              have HHT := Lib.hid hht
              clear hQd hXd hYd hBd hsd hht c1 c3
              rcases h56 with h56 | h56
              · as_aux_lemma =>
                  go_wp2_with fail
                  (with_reducible refine htp.mono ?_)
                  rintro e w5 ⟨v5, rfl, hQ5, ho5, hb5, hk5, hm5⟩
                  have hX5 := hX4.keep hk5 hm5
                  have hB5 := hB4.trans (hb5.mono hBw)
                  have hs5 : B ≤ w5.heap.size := Nat.le_trans hs4 hb5.size
                  have hY5 := hk5 _ _ _ hY4 (by decide) (by decide)
                  have c45 : w5.cell? ⟨ob, 4, none⟩ = some (.int .i64 mm) := hY5.cell 4
                  have hRT := Lib.hid (rtake_law gx mb es q mm w5 hX5 hR HI.out (by omega) hmm)
                  obtain ⟨A5, k5, rfl, _⟩ := sl_of_own ho5
                  clear htp hb5 hk5 hm5 hX4 hQ4 hB4 hs4 hY4 c4
                  go_wp2_with fail
                  (with_reducible refine hRT.out.mono ?_)
                  rintro e w6 ⟨v6, rfl, hv6, hX6, wa, wb, hba, hgb, hCa, hbc⟩
                  have hQ6 := ((hQ5.below hba).blk hCa (by decide) (by decide) (by decide) hgb).below hbc
                  have hoa := own_same ho5 hba
                  have hob5 := own_grown hoa hgb (.inr (own_blk_ne hoa hCa (by decide)))
                  have ho6 := own_same hob5 hbc
                  have hBa := hB5.trans (hba.mono hB5.size)
                  have hBb := hBa.grown hgb hBa.size (fun k hk => by simp only [Option.some.injEq] at hk; omega)
                  have hB6 := hBb.trans (hbc.mono hBb.size)
                  have hs6 : B ≤ w6.heap.size := Nat.le_trans hs5 (Nat.le_trans hba.size (Nat.le_trans hgb.size hbc.size))
                  obtain ⟨A6, k6, rfl⟩ := hv6.form
                  have hsm := same_yes _ _ _ w6 (rd_of_own (k := .u8) ho6) hv6
                  have hPF : PL B w w6 gq gx mb (q.take mm) es (i + 1) := ⟨hQ6, hX6, xr_take hR HI.out mm, hIt, by have := HHT.out; omega, by omega, hB6, hs6⟩
                  clear hRT hba hgb hbc hCa hoa hob5 ho6 hBa hBb hQ5 hQ6 hX5 hX6 hv6 ho5 hY5 c45
                  go_wp2_with fail
                  (with_reducible refine hsm.mono ?_)
                  rintro e w7 ⟨rfl, rfl⟩
                  go_wp2_with fail
                  go_meet
                  case rel => exact ⟨rfl, rfl, _, _, hPF⟩
              · as_aux_lemma =>
                  go_wp2_with fail
                  (with_reducible refine htp.mono ?_)
                  rintro e w5 ⟨v5, rfl, hQ5, ho5, hb5, hk5, hm5⟩
                  have hX5 := hX4.keep hk5 hm5
                  have hB5 := hB4.trans (hb5.mono hBw)
                  have hs5 : B ≤ w5.heap.size := Nat.le_trans hs4 hb5.size
                  have hY5 := hk5 _ _ _ hY4 (by decide) (by decide)
                  have c45 : w5.cell? ⟨ob, 4, none⟩ = some (.int .i64 mm) := hY5.cell 4
                  have hRT := Lib.hid (rtake_law gx mb es q mm w5 hX5 hR HI.out (by omega) hmm)
                  obtain ⟨A5, k5, rfl, _⟩ := sl_of_own ho5
                  clear htp hb5 hk5 hm5 hX4 hQ4 hB4 hs4 hY4 c4
                  go_wp2_with fail
                  (with_reducible refine hRT.out.mono ?_)
                  rintro e w6 ⟨v6, rfl, hv6, hX6, wa, wb, hba, hgb, hCa, hbc⟩
                  have hQ6 := ((hQ5.below hba).blk hCa (by decide) (by decide) (by decide) hgb).below hbc
                  have hoa := own_same ho5 hba
                  have hob5 := own_grown hoa hgb (.inr (own_blk_ne hoa hCa (by decide)))
                  have ho6 := own_same hob5 hbc
                  have hBa := hB5.trans (hba.mono hB5.size)
                  have hBb := hBa.grown hgb hBa.size (fun k hk => by simp only [Option.some.injEq] at hk; omega)
                  have hB6 := hBb.trans (hbc.mono hBb.size)
                  have hs6 : B ≤ w6.heap.size := Nat.le_trans hs5 (Nat.le_trans hba.size (Nat.le_trans hgb.size hbc.size))
                  obtain ⟨A6, k6, rfl⟩ := hv6.form
                  have hsm := same_yes _ _ _ w6 (rd_of_own (k := .u8) ho6) hv6
                  have hPF : PL B w w6 gq gx mb (q.take mm) es (i + 1) := ⟨hQ6, hX6, xr_take hR HI.out mm, hIt, by have := HHT.out; omega, by omega, hB6, hs6⟩
                  clear hRT hba hgb hbc hCa hoa hob5 ho6 hBa hBb hQ5 hQ6 hX5 hX6 hv6 ho5 hY5 c45
                  go_wp2_with fail
                  (with_reducible refine hsm.mono ?_)
                  rintro e w7 ⟨rfl, rfl⟩
                  go_wp2_with fail
                  go_meet
                  case rel => exact ⟨rfl, rfl, _, _, hPF⟩
            · as_aux_lemma =>
                have hdl : d_ % 7 < 4 := by omega
                obtain ⟨ee, hee⟩ : ∃ ee, ee = q.err of t en_ := ⟨_, rfl⟩
                obtain ⟨M4, hM4⟩ : ∃ M4, M4 = w3.heap.size := ⟨_, rfl⟩
                rw [← hM4] at ho4 hQS4 hs3w h34
                have hQSd : QP (fun b => b < M4) B w4.drew gq q := hQS4.below (below_drewN (Below.refl _ _) 1)
                have hod : w4.drew.ownsRow M4 5 1 (.slice A4 t.length cc4) t.length (t.map (Value.int .u8)) := ho4
                have hOd : w4.drew.ownsRow 0 5 1 (.slice A3 t.length cc3) t.length (t.map (Value.int .u8)) := own_low hO4
                have h4d : w4.drew.heap.size = w4.heap.size := rfl
                have hol := ho4.lt
                have HPU := Lib.hid (put_lawP (fun b => b < M4) B gq q of (.slice A4 t.length cc4) t en_ w4.drew hQSd hI (by omega) hsd (rd_of_own (k := .u8) hod) (by omega) hbt hof)
                rw [← hee] at HPU
                have HEE := Lib.hid hee
                clear hQd hQSd hQS4 hQ4 hX4 hB4 hs4 hee hP4 hM4
                go_wp2_with fail
                refine wp_region_held_drew (S := fun w' => w'.cell? ⟨ob, 1, none⟩ = some (.int .u64 of) ∧ w'.cell? ⟨ob, 3, none⟩ = some (.bool en_)) (by kernel_rfl) (by first | exact ⟨c1, c3⟩ | exact ⟨a1, a3⟩ | exact ⟨b1, b3⟩) (fun _ => ?_)
                refine wpAnyH_take (i := 0) (oi := ({ dst := some 41, op := Op.move (Operand.tmp 5), type := 25, pos := _, after := #[], guard := none } : Oper)) (v := ?_) rfl (by kernel_rfl) (by kernel_rfl) (by kernel_rfl) (fun _ _ _ h => h) (Or.inl ⟨by rfl, ?_⟩) (by first | exact ⟨c1, c3⟩ | exact ⟨a1, a3⟩ | exact ⟨b1, b3⟩) ?_
                rotate_left
                · intro w hSw
                  try dsimp only at hSw
                  go_simp
                  try with_reducible rfl
                try simp only [Act.put, List.setIfInBounds_toArray, List.set_cons_zero, List.set_cons_succ]
                refine wpAnyH_take (i := 1) (oi := ({ dst := some 42, op := Op.fieldAddr 44 (Operand.tmp 8) 1, type := 0, pos := _, after := #[], guard := none } : Oper)) (v := ?_) rfl (by kernel_rfl) (by kernel_rfl) (by kernel_rfl) (fun _ _ _ h => h) (Or.inl ⟨by rfl, ?_⟩) (by first | exact ⟨c1, c3⟩ | exact ⟨a1, a3⟩ | exact ⟨b1, b3⟩) ?_
                rotate_left
                · intro w hSw
                  try dsimp only at hSw
                  go_simp
                  try with_reducible rfl
                try simp only [Act.put, List.setIfInBounds_toArray, List.set_cons_zero, List.set_cons_succ]
                refine wpAnyH_take (i := 2) (oi := ({ dst := some 43, op := Op.load 27 (Operand.tmp 42), type := 27, pos := _, after := #[{ on := 1, ground := Ground.data }], guard := none } : Oper)) (v := ?_) rfl (by kernel_rfl) (by kernel_rfl) (by kernel_rfl) (fun _ _ _ h => h) (Or.inl ⟨by rfl, ?_⟩) (by first | exact ⟨c1, c3⟩ | exact ⟨a1, a3⟩ | exact ⟨b1, b3⟩) ?_
                rotate_left
                · intro w hSw
                  try dsimp only at hSw
                  go_simp
                  try with_reducible rfl
                try simp only [Act.put, List.setIfInBounds_toArray, List.set_cons_zero, List.set_cons_succ]
                refine wpAnyH_take (i := 3) (oi := ({ dst := some 44, op := Op.move (Operand.tmp 10), type := 22, pos := _, after := #[], guard := none } : Oper)) (v := ?_) rfl (by kernel_rfl) (by kernel_rfl) (by kernel_rfl) (fun _ _ _ h => h) (Or.inl ⟨by rfl, ?_⟩) (by first | exact ⟨c1, c3⟩ | exact ⟨a1, a3⟩ | exact ⟨b1, b3⟩) ?_
                rotate_left
                · intro w hSw
                  try dsimp only at hSw
                  go_simp
                  try with_reducible rfl
                try simp only [Act.put, List.setIfInBounds_toArray, List.set_cons_zero, List.set_cons_succ]
                refine wpAnyH_take (i := 4) (oi := ({ dst := some 45, op := Op.fieldAddr 44 (Operand.tmp 8) 3, type := 0, pos := _, after := #[], guard := none } : Oper)) (v := ?_) rfl (by kernel_rfl) (by kernel_rfl) (by kernel_rfl) (fun _ _ _ h => h) (Or.inl ⟨by rfl, ?_⟩) (by first | exact ⟨c1, c3⟩ | exact ⟨a1, a3⟩ | exact ⟨b1, b3⟩) ?_
                rotate_left
                · intro w hSw
                  try dsimp only at hSw
                  go_simp
                  try with_reducible rfl
                try simp only [Act.put, List.setIfInBounds_toArray, List.set_cons_zero, List.set_cons_succ]
                refine wpAnyH_take (i := 5) (oi := ({ dst := some 46, op := Op.load 4 (Operand.tmp 45), type := 4, pos := _, after := #[{ on := 4, ground := Ground.data }], guard := none } : Oper)) (v := ?_) rfl (by kernel_rfl) (by kernel_rfl) (by kernel_rfl) (fun _ _ _ h => h) (Or.inl ⟨by rfl, ?_⟩) (by first | exact ⟨c1, c3⟩ | exact ⟨a1, a3⟩ | exact ⟨b1, b3⟩) ?_
                rotate_left
                · intro w hSw
                  try dsimp only at hSw
                  go_simp
                  try with_reducible rfl
                try simp only [Act.put, List.setIfInBounds_toArray, List.set_cons_zero, List.set_cons_succ]
                refine wpAnyH_take (i := 7) (oi := ({ dst := some 48, op := Op.move (Operand.tmp 6), type := 50, pos := _, after := #[], guard := none } : Oper)) (v := ?_) rfl (by kernel_rfl) (by kernel_rfl) (by kernel_rfl) (fun _ _ _ h => h) (Or.inl ⟨by rfl, ?_⟩) (by first | exact ⟨c1, c3⟩ | exact ⟨a1, a3⟩ | exact ⟨b1, b3⟩) ?_
                rotate_left
                · intro w hSw
                  try dsimp only at hSw
                  go_simp
                  try with_reducible rfl
                try simp only [Act.put, List.setIfInBounds_toArray, List.set_cons_zero, List.set_cons_succ]
                refine wpAnyH_take (i := 8) (oi := ({ dst := some 49, op := Op.fieldAddr 44 (Operand.tmp 8) 1, type := 0, pos := _, after := #[], guard := none } : Oper)) (v := ?_) rfl (by kernel_rfl) (by kernel_rfl) (by kernel_rfl) (fun _ _ _ h => h) (Or.inl ⟨by rfl, ?_⟩) (by first | exact ⟨c1, c3⟩ | exact ⟨a1, a3⟩ | exact ⟨b1, b3⟩) ?_
                rotate_left
                · intro w hSw
                  try dsimp only at hSw
                  go_simp
                  try with_reducible rfl
                try simp only [Act.put, List.setIfInBounds_toArray, List.set_cons_zero, List.set_cons_succ]
                refine wpAnyH_take (i := 9) (oi := ({ dst := some 50, op := Op.load 27 (Operand.tmp 49), type := 27, pos := _, after := #[{ on := 8, ground := Ground.data }], guard := none } : Oper)) (v := ?_) rfl (by kernel_rfl) (by kernel_rfl) (by kernel_rfl) (fun _ _ _ h => h) (Or.inl ⟨by rfl, ?_⟩) (by first | exact ⟨c1, c3⟩ | exact ⟨a1, a3⟩ | exact ⟨b1, b3⟩) ?_
                rotate_left
                · intro w hSw
                  try dsimp only at hSw
                  go_simp
                  try with_reducible rfl
                try simp only [Act.put, List.setIfInBounds_toArray, List.set_cons_zero, List.set_cons_succ]
                refine wpAnyH_take (i := 10) (oi := ({ dst := some 51, op := Op.move (Operand.tmp 9), type := 22, pos := _, after := #[], guard := none } : Oper)) (v := ?_) rfl (by kernel_rfl) (by kernel_rfl) (by kernel_rfl) (fun _ _ _ h => h) (Or.inl ⟨by rfl, ?_⟩) (by first | exact ⟨c1, c3⟩ | exact ⟨a1, a3⟩ | exact ⟨b1, b3⟩) ?_
                rotate_left
                · intro w hSw
                  try dsimp only at hSw
                  go_simp
                  try with_reducible rfl
                try simp only [Act.put, List.setIfInBounds_toArray, List.set_cons_zero, List.set_cons_succ]
                refine wpAnyH_take (i := 11) (oi := ({ dst := some 52, op := Op.fieldAddr 44 (Operand.tmp 8) 3, type := 0, pos := _, after := #[], guard := none } : Oper)) (v := ?_) rfl (by kernel_rfl) (by kernel_rfl) (by kernel_rfl) (fun _ _ _ h => h) (Or.inl ⟨by rfl, ?_⟩) (by first | exact ⟨c1, c3⟩ | exact ⟨a1, a3⟩ | exact ⟨b1, b3⟩) ?_
                rotate_left
                · intro w hSw
                  try dsimp only at hSw
                  go_simp
                  try with_reducible rfl
                try simp only [Act.put, List.setIfInBounds_toArray, List.set_cons_zero, List.set_cons_succ]
                refine wpAnyH_take (i := 12) (oi := ({ dst := some 53, op := Op.load 4 (Operand.tmp 52), type := 4, pos := _, after := #[{ on := 11, ground := Ground.data }], guard := none } : Oper)) (v := ?_) rfl (by kernel_rfl) (by kernel_rfl) (by kernel_rfl) (fun _ _ _ h => h) (Or.inl ⟨by rfl, ?_⟩) (by first | exact ⟨c1, c3⟩ | exact ⟨a1, a3⟩ | exact ⟨b1, b3⟩) ?_
                rotate_left
                · intro w hSw
                  try dsimp only at hSw
                  go_simp
                  try with_reducible rfl
                try simp only [Act.put, List.setIfInBounds_toArray, List.set_cons_zero, List.set_cons_succ]
                refine wpAnyH_ready (rs := [6]) (by kernel_rfl) (by simp) ?_
                refine AllReadyH.cons (o := ({ dst := some 47, op := Op.call { callee := Callee.value (Operand.func 11), args := #[Operand.tmp 41, Operand.tmp 43, Operand.tmp 44, Operand.tmp 46], argTypes := #[25, 27, 22, 4] }, type := 28, pos := _, after := #[{ on := 0, ground := Ground.data }, { on := 2, ground := Ground.data }, { on := 3, ground := Ground.data }, { on := 5, ground := Ground.data }], guard := none } : Oper)) rfl (fun K hK => ?_) AllReadyH.nil
                go_simp
                go_at_call 11
                (with_reducible refine HPU.out.mono ?_)
                rintro e w5 ⟨rfl, hQ5, hb5, hk5, hm5⟩
                have hX5 := hXd.keep hk5 hm5
                have hY5 := hk5 _ _ _ hYd (by decide) (by decide)
                have ho5 := own_keep hod hk5 (by decide) (by decide)
                have hO5 := own_keep hOd hk5 (by decide) (by decide)
                have hB5 := hBd.trans (hb5.mono hBw)
                have hs5 : B ≤ w5.heap.size := Nat.le_trans hsd hb5.size
                have a1 : w5.cell? ⟨ob, 1, none⟩ = some (.int .u64 of) := hY5.cell 1
                have a3 : w5.cell? ⟨ob, 3, none⟩ = some (.bool en_) := hY5.cell 3
                have hRP := rput_all gx mb es q of (.slice A3 t.length cc3) t en_ w5 hX5 hR hI (rdt_of_own hO5) hbt (by omega) hof (by omega)
                rw [← HEE.out] at hRP
                refine hK.out _ _ (by first | exact ⟨c1, c3⟩ | exact ⟨a1, a3⟩ | exact ⟨b1, b3⟩) (fun _ => ?_)
                clear hK K
                try simp only [Act.put, List.setIfInBounds_toArray, List.set_cons_zero, List.set_cons_succ]
                refine wpAnyH_ready (rs := [13]) (by kernel_rfl) (by simp) ?_
                refine AllReadyH.cons (o := ({ dst := some 54, op := Op.call { callee := Callee.value (Operand.func 24), args := #[Operand.tmp 48, Operand.tmp 50, Operand.tmp 51, Operand.tmp 53], argTypes := #[50, 27, 22, 4] }, type := 3, pos := _, after := #[{ on := 7, ground := Ground.data }, { on := 9, ground := Ground.data }, { on := 10, ground := Ground.data }, { on := 12, ground := Ground.data }, { on := 6, ground := Ground.chain }], guard := none } : Oper)) rfl (fun K hK => ?_) AllReadyH.nil
                go_simp
                go_at_call 24
                (with_reducible refine hRP.mono ?_)
                rintro e w6 ⟨rfl, es', hX6, hR6, hl6, wm, hg6, hh6, hc6⟩
                have hQ6 := QP.rput hQ5 hX5.2 hg6 hh6 hc6
                have hY6 := blk_rput hY5 (by decide) hX5.2 hg6 hh6 hc6
                have ho6 := own_rput ho5 (by decide) hX5.2 hg6 hh6 hc6
                have hO6 := own_rput hO5 (by decide) hX5.2 hg6 hh6 hc6
                have hB6 := below_rput hB5 hB5.size hg6 hh6 hmw hgw
                have hs6 : B ≤ w6.heap.size := Nat.le_trans hs5 (Nat.le_trans hg6.size hh6.size)
                have b1 : w6.cell? ⟨ob, 1, none⟩ = some (.int .u64 of) := hY6.cell 1
                have b3 : w6.cell? ⟨ob, 3, none⟩ = some (.bool en_) := hY6.cell 3
                have hsm := same_yes _ _ t w6 (rd_of_own (k := .u8) ho6) (rd_of_own (k := .u8) hO6)
                clear hRP
                refine hK.out _ _ (by first | exact ⟨c1, c3⟩ | exact ⟨a1, a3⟩ | exact ⟨b1, b3⟩) (fun _ => ?_)
                clear hK K
                try simp only [Act.put, List.setIfInBounds_toArray, List.set_cons_zero, List.set_cons_succ]
                refine wpAnyH_take (i := 14) (oi := ({ dst := some 55, op := Op.binOp BinOp.eql 3 (Operand.tmp 47) (Operand.tmp 54) 3, type := 4, pos := _, after := #[{ on := 6, ground := Ground.data }, { on := 13, ground := Ground.data }], guard := none } : Oper)) (v := ?_) rfl (by kernel_rfl) (by kernel_rfl) (by kernel_rfl) (fun _ _ _ h => h) (Or.inl ⟨by rfl, ?_⟩) (by first | exact ⟨c1, c3⟩ | exact ⟨a1, a3⟩ | exact ⟨b1, b3⟩) ?_
                rotate_left
                · intro w hSw
                  try dsimp only at hSw
                  go_simp
                  try with_reducible rfl
                try simp only [Act.put, List.setIfInBounds_toArray, List.set_cons_zero, List.set_cons_succ]
                refine wpAnyH_take (i := 15) (oi := ({ dst := some 56, op := Op.move (Operand.tmp 55), type := 4, pos := _, after := #[{ on := 14, ground := Ground.data }, { on := 13, ground := Ground.chain }], guard := none } : Oper)) (v := ?_) rfl (by kernel_rfl) (by kernel_rfl) (by kernel_rfl) (fun _ _ _ h => h) (Or.inl ⟨by rfl, ?_⟩) (by first | exact ⟨c1, c3⟩ | exact ⟨a1, a3⟩ | exact ⟨b1, b3⟩) ?_
                rotate_left
                · intro w hSw
                  try dsimp only at hSw
                  go_simp
                  try with_reducible rfl
                try simp only [Act.put, List.setIfInBounds_toArray, List.set_cons_zero, List.set_cons_succ]
                refine wpAnyH_take (i := 16) (oi := ({ dst := some 57, op := Op.move (Operand.tmp 10), type := 22, pos := _, after := #[{ on := 15, ground := Ground.guard }], guard := some (15, true) } : Oper)) (v := ?_) rfl (by kernel_rfl) (by kernel_rfl) (by kernel_rfl) (fun _ _ _ h => h) (Or.inl ⟨by rfl, ?_⟩) (by first | exact ⟨c1, c3⟩ | exact ⟨a1, a3⟩ | exact ⟨b1, b3⟩) ?_
                rotate_left
                · intro w hSw
                  try dsimp only at hSw
                  go_simp
                  try with_reducible rfl
                try simp only [Act.put, List.setIfInBounds_toArray, List.set_cons_zero, List.set_cons_succ]
                refine wpAnyH_take (i := 17) (oi := ({ dst := some 58, op := Op.move (Operand.tmp 9), type := 22, pos := _, after := #[{ on := 15, ground := Ground.guard }], guard := some (15, true) } : Oper)) (v := ?_) rfl (by kernel_rfl) (by kernel_rfl) (by kernel_rfl) (fun _ _ _ h => h) (Or.inl ⟨by rfl, ?_⟩) (by first | exact ⟨c1, c3⟩ | exact ⟨a1, a3⟩ | exact ⟨b1, b3⟩) ?_
                rotate_left
                · intro w hSw
                  try dsimp only at hSw
                  go_simp
                  try with_reducible rfl
                try simp only [Act.put, List.setIfInBounds_toArray, List.set_cons_zero, List.set_cons_succ]
                refine wpAnyH_ready (rs := [18]) (by kernel_rfl) (by simp) ?_
                refine AllReadyH.cons (o := ({ dst := some 59, op := Op.call { callee := Callee.value (Operand.func 14), args := #[Operand.tmp 57, Operand.tmp 58], argTypes := #[22, 22] }, type := 4, pos := _, after := #[{ on := 16, ground := Ground.data }, { on := 17, ground := Ground.data }, { on := 15, ground := Ground.chain }, { on := 15, ground := Ground.guard }], guard := some (15, true) } : Oper)) rfl (fun K hK => ?_) AllReadyH.nil
                go_simp
                go_at_call 14
                (with_reducible refine hsm.mono ?_)
                rintro e w7 ⟨rfl, rfl⟩
                clear hsm
                refine hK.out _ _ (by first | exact ⟨c1, c3⟩ | exact ⟨a1, a3⟩ | exact ⟨b1, b3⟩) (fun _ => ?_)
                clear hK K
                try simp only [Act.put, List.setIfInBounds_toArray, List.set_cons_zero, List.set_cons_succ]
                refine wpAnyH_take (i := 19) (oi := ({ dst := some 60, op := Op.pick (Operand.tmp 56) (Operand.tmp 59) (Operand.const (Value.bool false)), type := 4, pos := _, after := #[{ on := 15, ground := Ground.data }, { on := 18, ground := Ground.data }], guard := none } : Oper)) (v := ?_) rfl (by kernel_rfl) (by kernel_rfl) (by kernel_rfl) (fun _ _ _ h => h) (Or.inl ⟨by rfl, ?_⟩) (by first | exact ⟨c1, c3⟩ | exact ⟨a1, a3⟩ | exact ⟨b1, b3⟩) ?_
                rotate_left
                · intro w hSw
                  try dsimp only at hSw
                  go_simp
                  try with_reducible rfl
                try simp only [Act.put, List.setIfInBounds_toArray, List.set_cons_zero, List.set_cons_succ]
                refine wpAnyH_take (i := 20) (oi := ({ dst := some 11, op := Op.assign (Operand.tmp 60), type := 4, pos := _, after := #[{ on := 19, ground := Ground.data }, { on := 18, ground := Ground.chain }, { on := 0, ground := Ground.phase }, { on := 1, ground := Ground.phase }, { on := 2, ground := Ground.phase }, { on := 3, ground := Ground.phase }, { on := 4, ground := Ground.phase }, { on := 5, ground := Ground.phase }, { on := 6, ground := Ground.phase }, { on := 7, ground := Ground.phase }, { on := 8, ground := Ground.phase }, { on := 9, ground := Ground.phase }, { on := 10, ground := Ground.phase }, { on := 11, ground := Ground.phase }, { on := 12, ground := Ground.phase }, { on := 13, ground := Ground.phase }, { on := 14, ground := Ground.phase }, { on := 15, ground := Ground.phase }, { on := 16, ground := Ground.phase }, { on := 17, ground := Ground.phase }, { on := 18, ground := Ground.phase }, { on := 19, ground := Ground.phase }], guard := none } : Oper)) (v := ?_) rfl (by kernel_rfl) (by kernel_rfl) (by kernel_rfl) (fun _ _ _ h => h) (Or.inl ⟨by rfl, ?_⟩) (by first | exact ⟨c1, c3⟩ | exact ⟨a1, a3⟩ | exact ⟨b1, b3⟩) ?_
                rotate_left
                · intro w hSw
                  try dsimp only at hSw
                  go_simp
                  try with_reducible rfl
                try simp only [Act.put, List.setIfInBounds_toArray, List.set_cons_zero, List.set_cons_succ]
                refine wpAnyH_done (by kernel_rfl) ?_ _
                obtain ⟨q2, hq2⟩ : ∃ q2, q2 = q.put of t en_ := ⟨_, rfl⟩
                have hph := Q.put_hld q of t en_
                have hI2 : QI q2 := by rw [hq2]; exact hI.put hof.1 hbt
                have hh2 : hld q2.L ≤ 60 * (i + 1) := by rw [hq2]; omega
                rw [← hq2] at hQ6 hX6 hR6
                have hmid := mid_of_own ho6
                have HR6 := Lib.hid hR6
                have HI2 := Lib.hid hI2
                clear hph hq2 ho6 hO6 hY6 hR6 hI2 hY5 hO5 ho5 hX5 hQ5 hXd hYd hBd hsd hod hOd hO4 ho4 hY4 HPU b1 b3 a1 a3 c1 c3 c4 x0 hg6 hh6 hc6 hB5 hs5 hb5 hk5 hm5
                go_wp2_with fail
                go_loopw [63] (fun s63 wx => ∃ (k : Nat) (xs : List Int), s63 = .int .i64 k ∧ k ≤ t.length ∧ xs.length = t.length ∧ OwnM wx M4 5 1 (.slice A4 t.length cc4) t.length (xs.map (Value.int .u8)) ∧ QP (fun b => b < M4 ∨ w4.heap.size ≤ b) B wx gq q2 ∧ RX wx gx mb es' q2 ∧ Below w.heap.size w wx ∧ B ≤ wx.heap.size) (fun s63 _ => t.length - (intOf s63).toNat)
                case atStart => exact ⟨0, t, rfl, Nat.zero_le _, rfl, hmid, hQ6, hX6, hB6, hs6⟩
                case round =>
                  clear hmid hQ6 hX6 hB6 hs6
                  obtain ⟨k, xs, rfl, hk, hxl, hmid, hQ6, hX6, hB6, hs6⟩ := hrel
                  by_cases hkl : k < t.length
                  · have hkI : (k : Int) < (t.length : Int) := by omega
                    obtain ⟨⟨_, hsl⟩, hnn⟩ := hmid.rdv
                    rcases A4 with _ | a4
                    · exact absurd (hnn rfl) (by omega)
                    obtain ⟨g4, o4, rfl, hgb, hgl, hfz⟩ := hmid.free
                    obtain ⟨g5, o5, e5, _, hcc⟩ := hsl k hkl
                    have e5' : g5 = g4 ∧ o5 = o4 := by simpa using e5.symm
                    obtain ⟨rfl, rfl⟩ := e5'
                    obtain ⟨x, hx⟩ : ∃ x, x = xs.getD k 0 := ⟨_, rfl⟩
                    have hcell : World.cell? wr ⟨g5, o5 + k, none⟩ = some (.int .u8 x) := by
                      have h1 := hcc 0 (by decide)
                      rw [show o5 + (k * 1 + 0) = o5 + k by omega] at h1
                      rw [h1, hx]
                      simp [List.getD, List.getElem?_eq_getElem (show k < xs.length by omega)]
                    have hfk := hfz (o5 + k)
                    have hlt5 := hol g5 rfl
                    have hblk : ∃ cs, Blk wr g5 5 cs := by
                      rcases hmid.2 with ⟨e, _⟩ | ⟨g', _, _, cur, e, _, hb', _⟩
                      · simp at e
                      · simp only [Value.slice.injEq, Option.some.injEq, Addr.mk.injEq] at e
                        obtain ⟨⟨rfl, _⟩, _⟩ := e
                        exact ⟨cur, hb'⟩
                    obtain ⟨cs5, hblk⟩ := hblk
                    have HMID := Lib.hid hmid
                    have HQ := Lib.hid hQ6
                    have HX := Lib.hid hX6
                    have HB := Lib.hid hB6
                    have HBL := Lib.hid hblk
                    clear hmid hQ6 hX6 hB6 hblk hsl hcc hfz e5 hx hnn
                    go_wp2_with fail
                    obtain ⟨u, hu⟩ : ∃ u, u = bits .xor .u8 x 1 := ⟨_, rfl⟩
                    rw [← hu]
                    have hgF := grown_set (grown_refl wr (some g5)) (o5 + k) (.int .u8 u)
                    have hm2 := HMID.out.put k (by omega) (.int .u8 u)
                    rw [← List.map_set] at hm2
                    have hQ7 := HQ.out.row hgF (fun m hm h => by simp only [Option.some.injEq] at hm; subst hm; rcases h with h | h <;> omega) (fun m hm => by simp only [Option.some.injEq] at hm; subst hm; exact ⟨5, _, HBL.out, by decide, by decide⟩)
                    have hX7 := And.intro (HX.out.1.grown hgF (by simpa using (HX.out.1.ne_ HBL.out (by decide)))) (HX.out.2.grown hgF (by simpa using Ne.symm (blk_rmap_ne HBL.out HX.out.2)))
                    have hB7 := HB.out.grown hgF HB.out.size (fun m hm => by simp only [Option.some.injEq] at hm; omega)
                    go_roundw
                    case rel => exact ⟨k + 1, xs.set k u, by go_num, by omega, by rw [List.length_set]; exact hxl, hm2, hQ7, hX7, hB7, Nat.le_trans hs6 hgF.size⟩
                    case measure => simp [intOf]; omega
                  · obtain rfl : k = t.length := by omega
                    have hPF : PL B w wr gq gx mb q2 es' (i + 1) := ⟨hQ6.mono (fun _ _ _ => trivial), hX6, HR6.out, HI2.out, hh2, by omega, hB6, hs6⟩
                    clear hQ6 hX6 hB6 hs6 hmid
                    go_wp2_with fail
                    go_meet
                    case rel => exact ⟨rfl, rfl, _, _, hPF⟩
        case rest =>
          as_aux_lemma =>
            clear hP4 hY4 hO4 ho4 x0 c1 c3 c4 hQS4
            obtain ⟨rfl, rfl, q', es', hP⟩ := hcut
            have k1 := ready_law hP.qp.qa hP.qi
            have HR := Lib.hid hP.xr
            have HI := Lib.hid hP.qi
            have HHE := Lib.hid hP.he
            have HHH := Lib.hid hP.hh
            have hes : es'.length ≤ 1000000 := by have := hP.he; omega
            obtain ⟨ry, hry⟩ : ∃ ry, ry = rdy q'.rd q'.L := ⟨_, rfl⟩
            obtain ⟨hl, hhl⟩ : ∃ hl, hl = hld q'.L := ⟨_, rfl⟩
            obtain ⟨dn, hdn⟩ : ∃ dn, dn = q'.done := ⟨_, rfl⟩
            have HRY := Lib.hid hry
            have HHL := Lib.hid hhl
            have HDN := Lib.hid hdn
            rw [← hry] at k1
            clear hry hhl hdn
            go_wp2_with fail
            (with_reducible refine k1.mono ?_)
            rintro e wa ⟨rfl, hba⟩
            have hPa := hP.below hba
            have k2 := rready_law gx mb es' q' wa hPa.rx HR.out HI.out hes
            rw [← HRY.out] at k2
            clear k1 hba hP
            go_wp2_with fail
            (with_reducible refine k2.mono ?_)
            rintro e wb ⟨rfl, hbb⟩
            have hPb := hPa.below hbb
            have k3 := held_law hPb.qp.qa HI.out
            rw [← HHL.out] at k3
            clear k2 hbb hPa
            go_wp2_with fail
            (with_reducible refine k3.mono ?_)
            rintro e wd ⟨rfl, hbd⟩
            have hPd := hPb.below hbd
            have k4 := rheld_law gx mb es' q' wd hPd.rx HR.out HI.out hes
            rw [← HHL.out] at k4
            clear k3 hbd hPb
            go_wp2_with fail
            (with_reducible refine k4.mono ?_)
            rintro e we ⟨rfl, hbe⟩
            have hPe := hPd.below hbe
            have k5 := done_law hPe.qp.qa
            rw [← HDN.out] at k5
            clear k4 hbe hPd
            go_wp2_with fail
            (with_reducible refine k5.mono ?_)
            rintro e wf ⟨rfl, hbf⟩
            have hPf := hPe.below hbf
            have k6 := rdone_law gx mb es' q' wf hPf.rx
            rw [← HDN.out] at k6
            have hdd : (dn != dn) = false := by simp
            clear k5 hbf hPe
            go_wp2_with fail
            (with_reducible refine k6.mono ?_)
            rintro e wg ⟨rfl, hbg⟩
            have hPg := hPf.below hbg
            have k7 := end_law hPg.qp.qa
            clear k6 hbg hPf
            go_wp2_with fail
            (with_reducible refine k7.mono ?_)
            rintro e wh ⟨rfl, hbh⟩
            have hPh := hPg.below hbh
            clear k7 hbh hPg
            obtain ⟨L', rd', hi', la', kn'⟩ := q'
            have z1 : wh.cell? ⟨gx, 1, none⟩ = some (.int .u64 rd') := hPh.rx.1.cell 1
            have z2 : wh.cell? ⟨gx, 2, none⟩ = some (.int .u64 hi') := hPh.rx.1.cell 2
            have z3 : wh.cell? ⟨gx, 3, none⟩ = some (.int .u64 la') := hPh.rx.1.cell 3
            have z4 : wh.cell? ⟨gx, 4, none⟩ = some (.bool kn') := hPh.rx.1.cell 4
            have hPz : PL B w wh.drew gq gx mb ⟨L', rd', hi', la', kn'⟩ es' (i + 1) := hPh.below (below_drewN (Below.refl _ _) 1)
            have h21 := high_law hPz.qp.qa
            have h18 := read_law hPz.qp.qa
            simp only at h21 h18
            have HPZ := Lib.hid hPz
            clear hPh hPz
            cases kn' with
            | true =>
              as_aux_lemma =>
                go_wp2_with fail
                refine wp_region_held_drew (S := fun w' => w'.cell? ⟨gx, 1, none⟩ = some (.int .u64 rd') ∧ w'.cell? ⟨gx, 2, none⟩ = some (.int .u64 hi') ∧ w'.cell? ⟨gx, 3, none⟩ = some (.int .u64 la') ∧ w'.cell? ⟨gx, 4, none⟩ = some (.bool true)) (by kernel_rfl) (⟨z1, z2, z3, z4⟩) (fun _ => ?_)
                refine wpAnyH_take (i := 0) (oi := ({ dst := some 137, op := Op.move (Operand.tmp 6), type := 50, pos := _, after := #[], guard := none } : Oper)) (v := ?_) rfl (by kernel_rfl) (by kernel_rfl) (by kernel_rfl) (fun _ _ _ h => h) (Or.inl ⟨by rfl, ?_⟩) (⟨z1, z2, z3, z4⟩) ?_
                rotate_left
                · intro w hSw
                  try dsimp only at hSw
                  go_simp
                  try with_reducible rfl
                try simp only [Act.put, List.setIfInBounds_toArray, List.set_cons_zero, List.set_cons_succ]
                refine wpAnyH_take (i := 1) (oi := ({ dst := some 138, op := Op.binOp BinOp.eql 50 (Operand.tmp 137) (Operand.const (Value.pointer none)) 50, type := 4, pos := _, after := #[{ on := 0, ground := Ground.data }], guard := none } : Oper)) (v := ?_) rfl (by kernel_rfl) (by kernel_rfl) (by kernel_rfl) (fun _ _ _ h => h) (Or.inl ⟨by rfl, ?_⟩) (⟨z1, z2, z3, z4⟩) ?_
                rotate_left
                · intro w hSw
                  try dsimp only at hSw
                  go_simp
                  try with_reducible rfl
                try simp only [Act.put, List.setIfInBounds_toArray, List.set_cons_zero, List.set_cons_succ]
                refine wpAnyH_take (i := 2) (oi := ({ dst := some 139, op := Op.move (Operand.tmp 138), type := 4, pos := _, after := #[{ on := 1, ground := Ground.data }], guard := none } : Oper)) (v := ?_) rfl (by kernel_rfl) (by kernel_rfl) (by kernel_rfl) (fun _ _ _ h => h) (Or.inl ⟨by rfl, ?_⟩) (⟨z1, z2, z3, z4⟩) ?_
                rotate_left
                · intro w hSw
                  try dsimp only at hSw
                  go_simp
                  try with_reducible rfl
                try simp only [Act.put, List.setIfInBounds_toArray, List.set_cons_zero, List.set_cons_succ]
                refine wpAnyH_take (i := 3) (oi := ({ dst := some 140, op := Op.move (Operand.tmp 5), type := 25, pos := _, after := #[{ on := 2, ground := Ground.guard }], guard := some (2, true) } : Oper)) (v := undef) rfl (by kernel_rfl) (by kernel_rfl) (by kernel_rfl) (fun _ _ _ h => h) (Or.inr ⟨by rfl, rfl⟩) (⟨z1, z2, z3, z4⟩) ?_
                try simp only [Act.put, List.setIfInBounds_toArray, List.set_cons_zero, List.set_cons_succ]
                refine wpAnyH_take (i := 4) (oi := ({ dst := some 141, op := Op.call { callee := Callee.value (Operand.func 21), args := #[Operand.tmp 140], argTypes := #[25] }, type := 27, pos := _, after := #[{ on := 3, ground := Ground.data }, { on := 2, ground := Ground.chain }, { on := 2, ground := Ground.guard }], guard := some (2, true) } : Oper)) (v := undef) rfl (by kernel_rfl) (by kernel_rfl) (by kernel_rfl) (fun _ _ _ h => h) (Or.inr ⟨by rfl, rfl⟩) (⟨z1, z2, z3, z4⟩) ?_
                try simp only [Act.put, List.setIfInBounds_toArray, List.set_cons_zero, List.set_cons_succ]
                refine wpAnyH_take (i := 5) (oi := ({ dst := some 142, op := Op.binOp BinOp.neq 27 (Operand.tmp 141) (Operand.const (Value.int IntKind.u64 0)) 27, type := 4, pos := _, after := #[{ on := 4, ground := Ground.data }, { on := 2, ground := Ground.guard }], guard := some (2, true) } : Oper)) (v := undef) rfl (by kernel_rfl) (by kernel_rfl) (by kernel_rfl) (fun _ _ _ h => h) (Or.inr ⟨by rfl, rfl⟩) (⟨z1, z2, z3, z4⟩) ?_
                try simp only [Act.put, List.setIfInBounds_toArray, List.set_cons_zero, List.set_cons_succ]
                refine wpAnyH_take (i := 6) (oi := ({ dst := some 143, op := Op.move (Operand.tmp 142), type := 4, pos := _, after := #[{ on := 5, ground := Ground.data }, { on := 4, ground := Ground.chain }, { on := 2, ground := Ground.guard }], guard := some (2, true) } : Oper)) (v := undef) rfl (by kernel_rfl) (by kernel_rfl) (by kernel_rfl) (fun _ _ _ h => h) (Or.inr ⟨by rfl, rfl⟩) (⟨z1, z2, z3, z4⟩) ?_
                try simp only [Act.put, List.setIfInBounds_toArray, List.set_cons_zero, List.set_cons_succ]
                refine wpAnyH_take (i := 7) (oi := ({ dst := some 144, op := Op.move (Operand.tmp 18), type := 4, pos := _, after := #[{ on := 6, ground := Ground.guard }], guard := some (6, false) } : Oper)) (v := undef) rfl (by kernel_rfl) (by kernel_rfl) (by kernel_rfl) (fun _ _ _ h => h) (Or.inr ⟨by rfl, rfl⟩) (⟨z1, z2, z3, z4⟩) ?_
                try simp only [Act.put, List.setIfInBounds_toArray, List.set_cons_zero, List.set_cons_succ]
                refine wpAnyH_take (i := 8) (oi := ({ dst := some 145, op := Op.pick (Operand.tmp 143) (Operand.const (Value.bool true)) (Operand.tmp 144), type := 4, pos := _, after := #[{ on := 6, ground := Ground.data }, { on := 7, ground := Ground.data }, { on := 2, ground := Ground.guard }], guard := some (2, true) } : Oper)) (v := undef) rfl (by kernel_rfl) (by kernel_rfl) (by kernel_rfl) (fun _ _ _ h => h) (Or.inr ⟨by rfl, rfl⟩) (⟨z1, z2, z3, z4⟩) ?_
                try simp only [Act.put, List.setIfInBounds_toArray, List.set_cons_zero, List.set_cons_succ]
                refine wpAnyH_take (i := 9) (oi := ({ dst := some 146, op := Op.move (Operand.tmp 145), type := 4, pos := _, after := #[{ on := 8, ground := Ground.data }, { on := 6, ground := Ground.chain }, { on := 2, ground := Ground.guard }], guard := some (2, true) } : Oper)) (v := undef) rfl (by kernel_rfl) (by kernel_rfl) (by kernel_rfl) (fun _ _ _ h => h) (Or.inr ⟨by rfl, rfl⟩) (⟨z1, z2, z3, z4⟩) ?_
                try simp only [Act.put, List.setIfInBounds_toArray, List.set_cons_zero, List.set_cons_succ]
                refine wpAnyH_take (i := 10) (oi := ({ dst := some 147, op := Op.move (Operand.tmp 5), type := 25, pos := _, after := #[{ on := 9, ground := Ground.guard }], guard := some (9, false) } : Oper)) (v := undef) rfl (by kernel_rfl) (by kernel_rfl) (by kernel_rfl) (fun _ _ _ h => h) (Or.inr ⟨by rfl, rfl⟩) (⟨z1, z2, z3, z4⟩) ?_
                try simp only [Act.put, List.setIfInBounds_toArray, List.set_cons_zero, List.set_cons_succ]
                refine wpAnyH_take (i := 11) (oi := ({ dst := some 148, op := Op.call { callee := Callee.value (Operand.func 18), args := #[Operand.tmp 147], argTypes := #[25] }, type := 27, pos := _, after := #[{ on := 10, ground := Ground.data }, { on := 9, ground := Ground.chain }, { on := 9, ground := Ground.guard }], guard := some (9, false) } : Oper)) (v := undef) rfl (by kernel_rfl) (by kernel_rfl) (by kernel_rfl) (fun _ _ _ h => h) (Or.inr ⟨by rfl, rfl⟩) (⟨z1, z2, z3, z4⟩) ?_
                try simp only [Act.put, List.setIfInBounds_toArray, List.set_cons_zero, List.set_cons_succ]
                refine wpAnyH_take (i := 12) (oi := ({ dst := some 149, op := Op.binOp BinOp.neq 27 (Operand.tmp 148) (Operand.const (Value.int IntKind.u64 0)) 27, type := 4, pos := _, after := #[{ on := 11, ground := Ground.data }, { on := 9, ground := Ground.guard }], guard := some (9, false) } : Oper)) (v := undef) rfl (by kernel_rfl) (by kernel_rfl) (by kernel_rfl) (fun _ _ _ h => h) (Or.inr ⟨by rfl, rfl⟩) (⟨z1, z2, z3, z4⟩) ?_
                try simp only [Act.put, List.setIfInBounds_toArray, List.set_cons_zero, List.set_cons_succ]
                refine wpAnyH_take (i := 13) (oi := ({ dst := some 150, op := Op.pick (Operand.tmp 146) (Operand.const (Value.bool true)) (Operand.tmp 149), type := 4, pos := _, after := #[{ on := 9, ground := Ground.data }, { on := 12, ground := Ground.data }, { on := 2, ground := Ground.guard }], guard := some (2, true) } : Oper)) (v := undef) rfl (by kernel_rfl) (by kernel_rfl) (by kernel_rfl) (fun _ _ _ h => h) (Or.inr ⟨by rfl, rfl⟩) (⟨z1, z2, z3, z4⟩) ?_
                try simp only [Act.put, List.setIfInBounds_toArray, List.set_cons_zero, List.set_cons_succ]
                refine wpAnyH_take (i := 14) (oi := ({ dst := some 151, op := Op.pick (Operand.tmp 139) (Operand.tmp 150) (Operand.const (Value.bool false)), type := 4, pos := _, after := #[{ on := 2, ground := Ground.data }, { on := 13, ground := Ground.data }], guard := none } : Oper)) (v := ?_) rfl (by kernel_rfl) (by kernel_rfl) (by kernel_rfl) (fun _ _ _ h => h) (Or.inl ⟨by rfl, ?_⟩) (⟨z1, z2, z3, z4⟩) ?_
                rotate_left
                · intro w hSw
                  try dsimp only at hSw
                  go_simp
                  try with_reducible rfl
                try simp only [Act.put, List.setIfInBounds_toArray, List.set_cons_zero, List.set_cons_succ]
                refine wpAnyH_take (i := 15) (oi := ({ dst := some 152, op := Op.move (Operand.tmp 151), type := 4, pos := _, after := #[{ on := 14, ground := Ground.data }, { on := 11, ground := Ground.chain }], guard := none } : Oper)) (v := ?_) rfl (by kernel_rfl) (by kernel_rfl) (by kernel_rfl) (fun _ _ _ h => h) (Or.inl ⟨by rfl, ?_⟩) (⟨z1, z2, z3, z4⟩) ?_
                rotate_left
                · intro w hSw
                  try dsimp only at hSw
                  go_simp
                  try with_reducible rfl
                try simp only [Act.put, List.setIfInBounds_toArray, List.set_cons_zero, List.set_cons_succ]
                refine wpAnyH_take (i := 16) (oi := ({ dst := some 153, op := Op.move (Operand.tmp 6), type := 50, pos := _, after := #[{ on := 15, ground := Ground.guard }], guard := some (15, false) } : Oper)) (v := ?_) rfl (by kernel_rfl) (by kernel_rfl) (by kernel_rfl) (fun _ _ _ h => h) (Or.inl ⟨by rfl, ?_⟩) (⟨z1, z2, z3, z4⟩) ?_
                rotate_left
                · intro w hSw
                  try dsimp only at hSw
                  go_simp
                  try with_reducible rfl
                try simp only [Act.put, List.setIfInBounds_toArray, List.set_cons_zero, List.set_cons_succ]
                refine wpAnyH_take (i := 17) (oi := ({ dst := some 154, op := Op.binOp BinOp.neq 50 (Operand.tmp 153) (Operand.const (Value.pointer none)) 50, type := 4, pos := _, after := #[{ on := 16, ground := Ground.data }, { on := 15, ground := Ground.guard }], guard := some (15, false) } : Oper)) (v := ?_) rfl (by kernel_rfl) (by kernel_rfl) (by kernel_rfl) (fun _ _ _ h => h) (Or.inl ⟨by rfl, ?_⟩) (⟨z1, z2, z3, z4⟩) ?_
                rotate_left
                · intro w hSw
                  try dsimp only at hSw
                  go_simp
                  try with_reducible rfl
                try simp only [Act.put, List.setIfInBounds_toArray, List.set_cons_zero, List.set_cons_succ]
                refine wpAnyH_take (i := 18) (oi := ({ dst := some 155, op := Op.move (Operand.tmp 154), type := 4, pos := _, after := #[{ on := 17, ground := Ground.data }, { on := 15, ground := Ground.chain }, { on := 15, ground := Ground.guard }], guard := some (15, false) } : Oper)) (v := ?_) rfl (by kernel_rfl) (by kernel_rfl) (by kernel_rfl) (fun _ _ _ h => h) (Or.inl ⟨by rfl, ?_⟩) (⟨z1, z2, z3, z4⟩) ?_
                rotate_left
                · intro w hSw
                  try dsimp only at hSw
                  go_simp
                  try with_reducible rfl
                try simp only [Act.put, List.setIfInBounds_toArray, List.set_cons_zero, List.set_cons_succ]
                refine wpAnyH_take (i := 19) (oi := ({ dst := some 156, op := Op.move (Operand.tmp 5), type := 25, pos := _, after := #[{ on := 18, ground := Ground.guard }], guard := some (18, true) } : Oper)) (v := ?_) rfl (by kernel_rfl) (by kernel_rfl) (by kernel_rfl) (fun _ _ _ h => h) (Or.inl ⟨by rfl, ?_⟩) (⟨z1, z2, z3, z4⟩) ?_
                rotate_left
                · intro w hSw
                  try dsimp only at hSw
                  go_simp
                  try with_reducible rfl
                try simp only [Act.put, List.setIfInBounds_toArray, List.set_cons_zero, List.set_cons_succ]
                refine wpAnyH_take (i := 21) (oi := ({ dst := some 158, op := Op.move (Operand.tmp 6), type := 50, pos := _, after := #[{ on := 18, ground := Ground.guard }], guard := some (18, true) } : Oper)) (v := ?_) rfl (by kernel_rfl) (by kernel_rfl) (by kernel_rfl) (fun _ _ _ h => h) (Or.inl ⟨by rfl, ?_⟩) (⟨z1, z2, z3, z4⟩) ?_
                rotate_left
                · intro w hSw
                  try dsimp only at hSw
                  go_simp
                  try with_reducible rfl
                try simp only [Act.put, List.setIfInBounds_toArray, List.set_cons_zero, List.set_cons_succ]
                refine wpAnyH_take (i := 22) (oi := ({ dst := some 159, op := Op.nilCheck (Operand.tmp 158), type := 0, pos := _, after := #[{ on := 21, ground := Ground.data }, { on := 18, ground := Ground.guard }], guard := some (18, true) } : Oper)) (v := ?_) rfl (by kernel_rfl) (by kernel_rfl) (by kernel_rfl) (fun _ _ _ h => h) (Or.inl ⟨by rfl, ?_⟩) (⟨z1, z2, z3, z4⟩) ?_
                rotate_left
                · intro w hSw
                  try dsimp only at hSw
                  go_simp
                  try with_reducible rfl
                try simp only [Act.put, List.setIfInBounds_toArray, List.set_cons_zero, List.set_cons_succ]
                refine wpAnyH_take (i := 23) (oi := ({ dst := some 160, op := Op.fieldAddr 59 (Operand.tmp 159) 2, type := 0, pos := _, after := #[{ on := 22, ground := Ground.data }, { on := 18, ground := Ground.guard }], guard := some (18, true) } : Oper)) (v := ?_) rfl (by kernel_rfl) (by kernel_rfl) (by kernel_rfl) (fun _ _ _ h => h) (Or.inl ⟨by rfl, ?_⟩) (⟨z1, z2, z3, z4⟩) ?_
                rotate_left
                · intro w hSw
                  try dsimp only at hSw
                  go_simp
                  try with_reducible rfl
                try simp only [Act.put, List.setIfInBounds_toArray, List.set_cons_zero, List.set_cons_succ]
                refine wpAnyH_take (i := 24) (oi := ({ dst := some 161, op := Op.load 27 (Operand.tmp 160), type := 27, pos := _, after := #[{ on := 23, ground := Ground.data }, { on := 18, ground := Ground.guard }], guard := some (18, true) } : Oper)) (v := ?_) rfl (by kernel_rfl) (by kernel_rfl) (by kernel_rfl) (fun _ _ _ h => h) (Or.inl ⟨by rfl, ?_⟩) (⟨z1, z2, z3, z4⟩) ?_
                rotate_left
                · intro w hSw
                  try dsimp only at hSw
                  go_simp
                  try with_reducible rfl
                try simp only [Act.put, List.setIfInBounds_toArray, List.set_cons_zero, List.set_cons_succ]
                refine wpAnyH_ready (rs := [20]) (by kernel_rfl) (by simp) ?_
                refine AllReadyH.cons (o := ({ dst := some 157, op := Op.call { callee := Callee.value (Operand.func 21), args := #[Operand.tmp 156], argTypes := #[25] }, type := 27, pos := _, after := #[{ on := 19, ground := Ground.data }, { on := 18, ground := Ground.chain }, { on := 18, ground := Ground.guard }], guard := some (18, true) } : Oper)) rfl (fun K hK => ?_) AllReadyH.nil
                go_simp
                go_at_call 21
                (with_reducible refine h21.mono ?_)
                rintro e wz ⟨rfl, rfl⟩
                refine hK.out _ _ (⟨z1, z2, z3, z4⟩) (fun _ => ?_)
                clear hK K
                try simp only [Act.put, List.setIfInBounds_toArray, List.set_cons_zero, List.set_cons_succ]
                refine wpAnyH_take (i := 25) (oi := ({ dst := some 162, op := Op.binOp BinOp.neq 27 (Operand.tmp 157) (Operand.tmp 161) 27, type := 4, pos := _, after := #[{ on := 20, ground := Ground.data }, { on := 24, ground := Ground.data }, { on := 18, ground := Ground.guard }], guard := some (18, true) } : Oper)) (v := ?_) rfl (by kernel_rfl) (by kernel_rfl) (by kernel_rfl) (fun _ _ _ h => h) (Or.inl ⟨by rfl, ?_⟩) (⟨z1, z2, z3, z4⟩) ?_
                rotate_left
                · intro w hSw
                  try dsimp only at hSw
                  go_simp
                  try with_reducible rfl
                try simp only [Act.put, List.setIfInBounds_toArray, List.set_cons_zero, List.set_cons_succ]
                refine wpAnyH_take (i := 26) (oi := ({ dst := some 163, op := Op.move (Operand.tmp 162), type := 4, pos := _, after := #[{ on := 25, ground := Ground.data }, { on := 20, ground := Ground.chain }, { on := 18, ground := Ground.guard }], guard := some (18, true) } : Oper)) (v := ?_) rfl (by kernel_rfl) (by kernel_rfl) (by kernel_rfl) (fun _ _ _ h => h) (Or.inl ⟨by rfl, ?_⟩) (⟨z1, z2, z3, z4⟩) ?_
                rotate_left
                · intro w hSw
                  try dsimp only at hSw
                  go_simp
                  try with_reducible rfl
                try simp only [Act.put, List.setIfInBounds_toArray, List.set_cons_zero, List.set_cons_succ]
                refine wpAnyH_take (i := 27) (oi := ({ dst := some 164, op := Op.move (Operand.tmp 18), type := 4, pos := _, after := #[{ on := 26, ground := Ground.guard }], guard := some (26, false) } : Oper)) (v := ?_) rfl (by kernel_rfl) (by kernel_rfl) (by kernel_rfl) (fun _ _ _ h => h) (Or.inl ⟨by rfl, ?_⟩) (⟨z1, z2, z3, z4⟩) ?_
                rotate_left
                · intro w hSw
                  try dsimp only at hSw
                  go_simp
                  try with_reducible rfl
                try simp only [Act.put, List.setIfInBounds_toArray, List.set_cons_zero, List.set_cons_succ]
                refine wpAnyH_take (i := 28) (oi := ({ dst := some 165, op := Op.move (Operand.tmp 6), type := 50, pos := _, after := #[{ on := 26, ground := Ground.guard }], guard := some (26, false) } : Oper)) (v := ?_) rfl (by kernel_rfl) (by kernel_rfl) (by kernel_rfl) (fun _ _ _ h => h) (Or.inl ⟨by rfl, ?_⟩) (⟨z1, z2, z3, z4⟩) ?_
                rotate_left
                · intro w hSw
                  try dsimp only at hSw
                  go_simp
                  try with_reducible rfl
                try simp only [Act.put, List.setIfInBounds_toArray, List.set_cons_zero, List.set_cons_succ]
                refine wpAnyH_take (i := 29) (oi := ({ dst := some 166, op := Op.nilCheck (Operand.tmp 165), type := 0, pos := _, after := #[{ on := 28, ground := Ground.data }, { on := 26, ground := Ground.guard }], guard := some (26, false) } : Oper)) (v := ?_) rfl (by kernel_rfl) (by kernel_rfl) (by kernel_rfl) (fun _ _ _ h => h) (Or.inl ⟨by rfl, ?_⟩) (⟨z1, z2, z3, z4⟩) ?_
                rotate_left
                · intro w hSw
                  try dsimp only at hSw
                  go_simp
                  try with_reducible rfl
                try simp only [Act.put, List.setIfInBounds_toArray, List.set_cons_zero, List.set_cons_succ]
                refine wpAnyH_take (i := 30) (oi := ({ dst := some 167, op := Op.fieldAddr 59 (Operand.tmp 166) 4, type := 0, pos := _, after := #[{ on := 29, ground := Ground.data }, { on := 26, ground := Ground.guard }], guard := some (26, false) } : Oper)) (v := ?_) rfl (by kernel_rfl) (by kernel_rfl) (by kernel_rfl) (fun _ _ _ h => h) (Or.inl ⟨by rfl, ?_⟩) (⟨z1, z2, z3, z4⟩) ?_
                rotate_left
                · intro w hSw
                  try dsimp only at hSw
                  go_simp
                  try with_reducible rfl
                try simp only [Act.put, List.setIfInBounds_toArray, List.set_cons_zero, List.set_cons_succ]
                refine wpAnyH_take (i := 31) (oi := ({ dst := some 168, op := Op.load 4 (Operand.tmp 167), type := 4, pos := _, after := #[{ on := 30, ground := Ground.data }, { on := 26, ground := Ground.guard }], guard := some (26, false) } : Oper)) (v := ?_) rfl (by kernel_rfl) (by kernel_rfl) (by kernel_rfl) (fun _ _ _ h => h) (Or.inl ⟨by rfl, ?_⟩) (⟨z1, z2, z3, z4⟩) ?_
                rotate_left
                · intro w hSw
                  try dsimp only at hSw
                  go_simp
                  try with_reducible rfl
                try simp only [Act.put, List.setIfInBounds_toArray, List.set_cons_zero, List.set_cons_succ]
                refine wpAnyH_take (i := 32) (oi := ({ dst := some 169, op := Op.binOp BinOp.neq 4 (Operand.tmp 164) (Operand.tmp 168) 4, type := 4, pos := _, after := #[{ on := 27, ground := Ground.data }, { on := 31, ground := Ground.data }, { on := 26, ground := Ground.guard }], guard := some (26, false) } : Oper)) (v := ?_) rfl (by kernel_rfl) (by kernel_rfl) (by kernel_rfl) (fun _ _ _ h => h) (Or.inl ⟨by rfl, ?_⟩) (⟨z1, z2, z3, z4⟩) ?_
                rotate_left
                · intro w hSw
                  try dsimp only at hSw
                  go_simp
                  try with_reducible rfl
                try simp only [Act.put, List.setIfInBounds_toArray, List.set_cons_zero, List.set_cons_succ]
                refine wpAnyH_take (i := 33) (oi := ({ dst := some 170, op := Op.pick (Operand.tmp 163) (Operand.const (Value.bool true)) (Operand.tmp 169), type := 4, pos := _, after := #[{ on := 26, ground := Ground.data }, { on := 32, ground := Ground.data }, { on := 18, ground := Ground.guard }], guard := some (18, true) } : Oper)) (v := ?_) rfl (by kernel_rfl) (by kernel_rfl) (by kernel_rfl) (fun _ _ _ h => h) (Or.inl ⟨by rfl, ?_⟩) (⟨z1, z2, z3, z4⟩) ?_
                rotate_left
                · intro w hSw
                  try dsimp only at hSw
                  go_simp
                  try with_reducible rfl
                try simp only [Act.put, List.setIfInBounds_toArray, List.set_cons_zero, List.set_cons_succ]
                refine wpAnyH_take (i := 34) (oi := ({ dst := some 171, op := Op.move (Operand.tmp 170), type := 4, pos := _, after := #[{ on := 33, ground := Ground.data }, { on := 26, ground := Ground.chain }, { on := 18, ground := Ground.guard }], guard := some (18, true) } : Oper)) (v := ?_) rfl (by kernel_rfl) (by kernel_rfl) (by kernel_rfl) (fun _ _ _ h => h) (Or.inl ⟨by rfl, ?_⟩) (⟨z1, z2, z3, z4⟩) ?_
                rotate_left
                · intro w hSw
                  try dsimp only at hSw
                  go_simp
                  try with_reducible rfl
                try simp only [Act.put, List.setIfInBounds_toArray, List.set_cons_zero, List.set_cons_succ]
                refine wpAnyH_take (i := 35) (oi := ({ dst := some 172, op := Op.move (Operand.tmp 18), type := 4, pos := _, after := #[{ on := 34, ground := Ground.guard }], guard := some (34, false) } : Oper)) (v := ?_) rfl (by kernel_rfl) (by kernel_rfl) (by kernel_rfl) (fun _ _ _ h => h) (Or.inl ⟨by rfl, ?_⟩) (⟨z1, z2, z3, z4⟩) ?_
                rotate_left
                · intro w hSw
                  try dsimp only at hSw
                  go_simp
                  try with_reducible rfl
                try simp only [Act.put, List.setIfInBounds_toArray, List.set_cons_zero, List.set_cons_succ]
                refine wpAnyH_take (i := 36) (oi := ({ dst := some 173, op := Op.move (Operand.tmp 172), type := 4, pos := _, after := #[{ on := 35, ground := Ground.data }, { on := 34, ground := Ground.chain }, { on := 34, ground := Ground.guard }], guard := some (34, false) } : Oper)) (v := ?_) rfl (by kernel_rfl) (by kernel_rfl) (by kernel_rfl) (fun _ _ _ h => h) (Or.inl ⟨by rfl, ?_⟩) (⟨z1, z2, z3, z4⟩) ?_
                rotate_left
                · intro w hSw
                  try dsimp only at hSw
                  go_simp
                  try with_reducible rfl
                try simp only [Act.put, List.setIfInBounds_toArray, List.set_cons_zero, List.set_cons_succ]
                refine wpAnyH_take (i := 37) (oi := ({ dst := some 174, op := Op.move (Operand.tmp 17), type := 27, pos := _, after := #[{ on := 36, ground := Ground.guard }], guard := some (36, true) } : Oper)) (v := ?_) rfl (by kernel_rfl) (by kernel_rfl) (by kernel_rfl) (fun _ _ _ h => h) (Or.inl ⟨by rfl, ?_⟩) (⟨z1, z2, z3, z4⟩) ?_
                rotate_left
                · intro w hSw
                  try dsimp only at hSw
                  go_simp
                  try with_reducible rfl
                try simp only [Act.put, List.setIfInBounds_toArray, List.set_cons_zero, List.set_cons_succ]
                refine wpAnyH_take (i := 38) (oi := ({ dst := some 175, op := Op.move (Operand.tmp 6), type := 50, pos := _, after := #[{ on := 36, ground := Ground.guard }], guard := some (36, true) } : Oper)) (v := ?_) rfl (by kernel_rfl) (by kernel_rfl) (by kernel_rfl) (fun _ _ _ h => h) (Or.inl ⟨by rfl, ?_⟩) (⟨z1, z2, z3, z4⟩) ?_
                rotate_left
                · intro w hSw
                  try dsimp only at hSw
                  go_simp
                  try with_reducible rfl
                try simp only [Act.put, List.setIfInBounds_toArray, List.set_cons_zero, List.set_cons_succ]
                refine wpAnyH_take (i := 39) (oi := ({ dst := some 176, op := Op.nilCheck (Operand.tmp 175), type := 0, pos := _, after := #[{ on := 38, ground := Ground.data }, { on := 36, ground := Ground.guard }], guard := some (36, true) } : Oper)) (v := ?_) rfl (by kernel_rfl) (by kernel_rfl) (by kernel_rfl) (fun _ _ _ h => h) (Or.inl ⟨by rfl, ?_⟩) (⟨z1, z2, z3, z4⟩) ?_
                rotate_left
                · intro w hSw
                  try dsimp only at hSw
                  go_simp
                  try with_reducible rfl
                try simp only [Act.put, List.setIfInBounds_toArray, List.set_cons_zero, List.set_cons_succ]
                refine wpAnyH_take (i := 40) (oi := ({ dst := some 177, op := Op.fieldAddr 59 (Operand.tmp 176) 3, type := 0, pos := _, after := #[{ on := 39, ground := Ground.data }, { on := 36, ground := Ground.guard }], guard := some (36, true) } : Oper)) (v := ?_) rfl (by kernel_rfl) (by kernel_rfl) (by kernel_rfl) (fun _ _ _ h => h) (Or.inl ⟨by rfl, ?_⟩) (⟨z1, z2, z3, z4⟩) ?_
                rotate_left
                · intro w hSw
                  try dsimp only at hSw
                  go_simp
                  try with_reducible rfl
                try simp only [Act.put, List.setIfInBounds_toArray, List.set_cons_zero, List.set_cons_succ]
                refine wpAnyH_take (i := 41) (oi := ({ dst := some 178, op := Op.load 27 (Operand.tmp 177), type := 27, pos := _, after := #[{ on := 40, ground := Ground.data }, { on := 36, ground := Ground.guard }], guard := some (36, true) } : Oper)) (v := ?_) rfl (by kernel_rfl) (by kernel_rfl) (by kernel_rfl) (fun _ _ _ h => h) (Or.inl ⟨by rfl, ?_⟩) (⟨z1, z2, z3, z4⟩) ?_
                rotate_left
                · intro w hSw
                  try dsimp only at hSw
                  go_simp
                  try with_reducible rfl
                try simp only [Act.put, List.setIfInBounds_toArray, List.set_cons_zero, List.set_cons_succ]
                refine wpAnyH_take (i := 42) (oi := ({ dst := some 179, op := Op.binOp BinOp.neq 27 (Operand.tmp 174) (Operand.tmp 178) 27, type := 4, pos := _, after := #[{ on := 37, ground := Ground.data }, { on := 41, ground := Ground.data }, { on := 36, ground := Ground.guard }], guard := some (36, true) } : Oper)) (v := ?_) rfl (by kernel_rfl) (by kernel_rfl) (by kernel_rfl) (fun _ _ _ h => h) (Or.inl ⟨by rfl, ?_⟩) (⟨z1, z2, z3, z4⟩) ?_
                rotate_left
                · intro w hSw
                  try dsimp only at hSw
                  go_simp
                  try with_reducible rfl
                try simp only [Act.put, List.setIfInBounds_toArray, List.set_cons_zero, List.set_cons_succ]
                refine wpAnyH_take (i := 43) (oi := ({ dst := some 180, op := Op.pick (Operand.tmp 173) (Operand.tmp 179) (Operand.const (Value.bool false)), type := 4, pos := _, after := #[{ on := 36, ground := Ground.data }, { on := 42, ground := Ground.data }, { on := 34, ground := Ground.guard }], guard := some (34, false) } : Oper)) (v := ?_) rfl (by kernel_rfl) (by kernel_rfl) (by kernel_rfl) (fun _ _ _ h => h) (Or.inl ⟨by rfl, ?_⟩) (⟨z1, z2, z3, z4⟩) ?_
                rotate_left
                · intro w hSw
                  try dsimp only at hSw
                  go_simp
                  try with_reducible rfl
                try simp only [Act.put, List.setIfInBounds_toArray, List.set_cons_zero, List.set_cons_succ]
                refine wpAnyH_take (i := 44) (oi := ({ dst := some 181, op := Op.pick (Operand.tmp 171) (Operand.const (Value.bool true)) (Operand.tmp 180), type := 4, pos := _, after := #[{ on := 34, ground := Ground.data }, { on := 43, ground := Ground.data }, { on := 18, ground := Ground.guard }], guard := some (18, true) } : Oper)) (v := ?_) rfl (by kernel_rfl) (by kernel_rfl) (by kernel_rfl) (fun _ _ _ h => h) (Or.inl ⟨by rfl, ?_⟩) (⟨z1, z2, z3, z4⟩) ?_
                rotate_left
                · intro w hSw
                  try dsimp only at hSw
                  go_simp
                  try with_reducible rfl
                try simp only [Act.put, List.setIfInBounds_toArray, List.set_cons_zero, List.set_cons_succ]
                refine wpAnyH_take (i := 45) (oi := ({ dst := some 182, op := Op.move (Operand.tmp 181), type := 4, pos := _, after := #[{ on := 44, ground := Ground.data }, { on := 36, ground := Ground.chain }, { on := 18, ground := Ground.guard }], guard := some (18, true) } : Oper)) (v := ?_) rfl (by kernel_rfl) (by kernel_rfl) (by kernel_rfl) (fun _ _ _ h => h) (Or.inl ⟨by rfl, ?_⟩) (⟨z1, z2, z3, z4⟩) ?_
                rotate_left
                · intro w hSw
                  try dsimp only at hSw
                  go_simp
                  try with_reducible rfl
                try simp only [Act.put, List.setIfInBounds_toArray, List.set_cons_zero, List.set_cons_succ]
                refine wpAnyH_take (i := 46) (oi := ({ dst := some 183, op := Op.move (Operand.tmp 5), type := 25, pos := _, after := #[{ on := 45, ground := Ground.guard }], guard := some (45, false) } : Oper)) (v := ?_) rfl (by kernel_rfl) (by kernel_rfl) (by kernel_rfl) (fun _ _ _ h => h) (Or.inl ⟨by rfl, ?_⟩) (⟨z1, z2, z3, z4⟩) ?_
                rotate_left
                · intro w hSw
                  try dsimp only at hSw
                  go_simp
                  try with_reducible rfl
                try simp only [Act.put, List.setIfInBounds_toArray, List.set_cons_zero, List.set_cons_succ]
                refine wpAnyH_take (i := 48) (oi := ({ dst := some 185, op := Op.move (Operand.tmp 6), type := 50, pos := _, after := #[{ on := 45, ground := Ground.guard }], guard := some (45, false) } : Oper)) (v := ?_) rfl (by kernel_rfl) (by kernel_rfl) (by kernel_rfl) (fun _ _ _ h => h) (Or.inl ⟨by rfl, ?_⟩) (⟨z1, z2, z3, z4⟩) ?_
                rotate_left
                · intro w hSw
                  try dsimp only at hSw
                  go_simp
                  try with_reducible rfl
                try simp only [Act.put, List.setIfInBounds_toArray, List.set_cons_zero, List.set_cons_succ]
                refine wpAnyH_take (i := 49) (oi := ({ dst := some 186, op := Op.nilCheck (Operand.tmp 185), type := 0, pos := _, after := #[{ on := 48, ground := Ground.data }, { on := 45, ground := Ground.guard }], guard := some (45, false) } : Oper)) (v := ?_) rfl (by kernel_rfl) (by kernel_rfl) (by kernel_rfl) (fun _ _ _ h => h) (Or.inl ⟨by rfl, ?_⟩) (⟨z1, z2, z3, z4⟩) ?_
                rotate_left
                · intro w hSw
                  try dsimp only at hSw
                  go_simp
                  try with_reducible rfl
                try simp only [Act.put, List.setIfInBounds_toArray, List.set_cons_zero, List.set_cons_succ]
                refine wpAnyH_take (i := 50) (oi := ({ dst := some 187, op := Op.fieldAddr 59 (Operand.tmp 186) 1, type := 0, pos := _, after := #[{ on := 49, ground := Ground.data }, { on := 45, ground := Ground.guard }], guard := some (45, false) } : Oper)) (v := ?_) rfl (by kernel_rfl) (by kernel_rfl) (by kernel_rfl) (fun _ _ _ h => h) (Or.inl ⟨by rfl, ?_⟩) (⟨z1, z2, z3, z4⟩) ?_
                rotate_left
                · intro w hSw
                  try dsimp only at hSw
                  go_simp
                  try with_reducible rfl
                try simp only [Act.put, List.setIfInBounds_toArray, List.set_cons_zero, List.set_cons_succ]
                refine wpAnyH_take (i := 51) (oi := ({ dst := some 188, op := Op.load 27 (Operand.tmp 187), type := 27, pos := _, after := #[{ on := 50, ground := Ground.data }, { on := 45, ground := Ground.guard }], guard := some (45, false) } : Oper)) (v := ?_) rfl (by kernel_rfl) (by kernel_rfl) (by kernel_rfl) (fun _ _ _ h => h) (Or.inl ⟨by rfl, ?_⟩) (⟨z1, z2, z3, z4⟩) ?_
                rotate_left
                · intro w hSw
                  try dsimp only at hSw
                  go_simp
                  try with_reducible rfl
                try simp only [Act.put, List.setIfInBounds_toArray, List.set_cons_zero, List.set_cons_succ]
                refine wpAnyH_ready (rs := [47]) (by kernel_rfl) (by simp) ?_
                refine AllReadyH.cons (o := ({ dst := some 184, op := Op.call { callee := Callee.value (Operand.func 18), args := #[Operand.tmp 183], argTypes := #[25] }, type := 27, pos := _, after := #[{ on := 46, ground := Ground.data }, { on := 45, ground := Ground.chain }, { on := 45, ground := Ground.guard }], guard := some (45, false) } : Oper)) rfl (fun K hK => ?_) AllReadyH.nil
                go_simp
                go_at_call 18
                (with_reducible refine h18.mono ?_)
                rintro e wz ⟨rfl, rfl⟩
                refine hK.out _ _ (⟨z1, z2, z3, z4⟩) (fun _ => ?_)
                clear hK K
                try simp only [Act.put, List.setIfInBounds_toArray, List.set_cons_zero, List.set_cons_succ]
                refine wpAnyH_take (i := 52) (oi := ({ dst := some 189, op := Op.binOp BinOp.neq 27 (Operand.tmp 184) (Operand.tmp 188) 27, type := 4, pos := _, after := #[{ on := 47, ground := Ground.data }, { on := 51, ground := Ground.data }, { on := 45, ground := Ground.guard }], guard := some (45, false) } : Oper)) (v := ?_) rfl (by kernel_rfl) (by kernel_rfl) (by kernel_rfl) (fun _ _ _ h => h) (Or.inl ⟨by rfl, ?_⟩) (⟨z1, z2, z3, z4⟩) ?_
                rotate_left
                · intro w hSw
                  try dsimp only at hSw
                  go_simp
                  try with_reducible rfl
                try simp only [Act.put, List.setIfInBounds_toArray, List.set_cons_zero, List.set_cons_succ]
                refine wpAnyH_take (i := 53) (oi := ({ dst := some 190, op := Op.pick (Operand.tmp 182) (Operand.const (Value.bool true)) (Operand.tmp 189), type := 4, pos := _, after := #[{ on := 45, ground := Ground.data }, { on := 52, ground := Ground.data }, { on := 18, ground := Ground.guard }], guard := some (18, true) } : Oper)) (v := ?_) rfl (by kernel_rfl) (by kernel_rfl) (by kernel_rfl) (fun _ _ _ h => h) (Or.inl ⟨by rfl, ?_⟩) (⟨z1, z2, z3, z4⟩) ?_
                rotate_left
                · intro w hSw
                  try dsimp only at hSw
                  go_simp
                  try with_reducible rfl
                try simp only [Act.put, List.setIfInBounds_toArray, List.set_cons_zero, List.set_cons_succ]
                refine wpAnyH_take (i := 54) (oi := ({ dst := some 191, op := Op.pick (Operand.tmp 155) (Operand.tmp 190) (Operand.const (Value.bool false)), type := 4, pos := _, after := #[{ on := 18, ground := Ground.data }, { on := 53, ground := Ground.data }, { on := 15, ground := Ground.guard }], guard := some (15, false) } : Oper)) (v := ?_) rfl (by kernel_rfl) (by kernel_rfl) (by kernel_rfl) (fun _ _ _ h => h) (Or.inl ⟨by rfl, ?_⟩) (⟨z1, z2, z3, z4⟩) ?_
                rotate_left
                · intro w hSw
                  try dsimp only at hSw
                  go_simp
                  try with_reducible rfl
                try simp only [Act.put, List.setIfInBounds_toArray, List.set_cons_zero, List.set_cons_succ]
                refine wpAnyH_take (i := 55) (oi := ({ dst := some 192, op := Op.pick (Operand.tmp 152) (Operand.const (Value.bool true)) (Operand.tmp 191), type := 4, pos := _, after := #[{ on := 15, ground := Ground.data }, { on := 54, ground := Ground.data }], guard := none } : Oper)) (v := ?_) rfl (by kernel_rfl) (by kernel_rfl) (by kernel_rfl) (fun _ _ _ h => h) (Or.inl ⟨by rfl, ?_⟩) (⟨z1, z2, z3, z4⟩) ?_
                rotate_left
                · intro w hSw
                  try dsimp only at hSw
                  go_simp
                  try with_reducible rfl
                try simp only [Act.put, List.setIfInBounds_toArray, List.set_cons_zero, List.set_cons_succ]
                refine wpAnyH_done (by kernel_rfl) ?_ _
                go_wp2_with fail
                go_roundw
                case rel => exact ⟨i + 1, _, es', by go_num, by omega, by rw [HM1.out]; exact HPZ.out⟩
                case measure => simp [intOf]; omega
            | false =>
              as_aux_lemma =>
                go_wp2_with fail
                refine wp_region_held_drew (S := fun w' => w'.cell? ⟨gx, 1, none⟩ = some (.int .u64 rd') ∧ w'.cell? ⟨gx, 2, none⟩ = some (.int .u64 hi') ∧ w'.cell? ⟨gx, 3, none⟩ = some (.int .u64 la') ∧ w'.cell? ⟨gx, 4, none⟩ = some (.bool false)) (by kernel_rfl) (⟨z1, z2, z3, z4⟩) (fun _ => ?_)
                refine wpAnyH_take (i := 0) (oi := ({ dst := some 137, op := Op.move (Operand.tmp 6), type := 50, pos := _, after := #[], guard := none } : Oper)) (v := ?_) rfl (by kernel_rfl) (by kernel_rfl) (by kernel_rfl) (fun _ _ _ h => h) (Or.inl ⟨by rfl, ?_⟩) (⟨z1, z2, z3, z4⟩) ?_
                rotate_left
                · intro w hSw
                  try dsimp only at hSw
                  go_simp
                  try with_reducible rfl
                try simp only [Act.put, List.setIfInBounds_toArray, List.set_cons_zero, List.set_cons_succ]
                refine wpAnyH_take (i := 1) (oi := ({ dst := some 138, op := Op.binOp BinOp.eql 50 (Operand.tmp 137) (Operand.const (Value.pointer none)) 50, type := 4, pos := _, after := #[{ on := 0, ground := Ground.data }], guard := none } : Oper)) (v := ?_) rfl (by kernel_rfl) (by kernel_rfl) (by kernel_rfl) (fun _ _ _ h => h) (Or.inl ⟨by rfl, ?_⟩) (⟨z1, z2, z3, z4⟩) ?_
                rotate_left
                · intro w hSw
                  try dsimp only at hSw
                  go_simp
                  try with_reducible rfl
                try simp only [Act.put, List.setIfInBounds_toArray, List.set_cons_zero, List.set_cons_succ]
                refine wpAnyH_take (i := 2) (oi := ({ dst := some 139, op := Op.move (Operand.tmp 138), type := 4, pos := _, after := #[{ on := 1, ground := Ground.data }], guard := none } : Oper)) (v := ?_) rfl (by kernel_rfl) (by kernel_rfl) (by kernel_rfl) (fun _ _ _ h => h) (Or.inl ⟨by rfl, ?_⟩) (⟨z1, z2, z3, z4⟩) ?_
                rotate_left
                · intro w hSw
                  try dsimp only at hSw
                  go_simp
                  try with_reducible rfl
                try simp only [Act.put, List.setIfInBounds_toArray, List.set_cons_zero, List.set_cons_succ]
                refine wpAnyH_take (i := 3) (oi := ({ dst := some 140, op := Op.move (Operand.tmp 5), type := 25, pos := _, after := #[{ on := 2, ground := Ground.guard }], guard := some (2, true) } : Oper)) (v := undef) rfl (by kernel_rfl) (by kernel_rfl) (by kernel_rfl) (fun _ _ _ h => h) (Or.inr ⟨by rfl, rfl⟩) (⟨z1, z2, z3, z4⟩) ?_
                try simp only [Act.put, List.setIfInBounds_toArray, List.set_cons_zero, List.set_cons_succ]
                refine wpAnyH_take (i := 4) (oi := ({ dst := some 141, op := Op.call { callee := Callee.value (Operand.func 21), args := #[Operand.tmp 140], argTypes := #[25] }, type := 27, pos := _, after := #[{ on := 3, ground := Ground.data }, { on := 2, ground := Ground.chain }, { on := 2, ground := Ground.guard }], guard := some (2, true) } : Oper)) (v := undef) rfl (by kernel_rfl) (by kernel_rfl) (by kernel_rfl) (fun _ _ _ h => h) (Or.inr ⟨by rfl, rfl⟩) (⟨z1, z2, z3, z4⟩) ?_
                try simp only [Act.put, List.setIfInBounds_toArray, List.set_cons_zero, List.set_cons_succ]
                refine wpAnyH_take (i := 5) (oi := ({ dst := some 142, op := Op.binOp BinOp.neq 27 (Operand.tmp 141) (Operand.const (Value.int IntKind.u64 0)) 27, type := 4, pos := _, after := #[{ on := 4, ground := Ground.data }, { on := 2, ground := Ground.guard }], guard := some (2, true) } : Oper)) (v := undef) rfl (by kernel_rfl) (by kernel_rfl) (by kernel_rfl) (fun _ _ _ h => h) (Or.inr ⟨by rfl, rfl⟩) (⟨z1, z2, z3, z4⟩) ?_
                try simp only [Act.put, List.setIfInBounds_toArray, List.set_cons_zero, List.set_cons_succ]
                refine wpAnyH_take (i := 6) (oi := ({ dst := some 143, op := Op.move (Operand.tmp 142), type := 4, pos := _, after := #[{ on := 5, ground := Ground.data }, { on := 4, ground := Ground.chain }, { on := 2, ground := Ground.guard }], guard := some (2, true) } : Oper)) (v := undef) rfl (by kernel_rfl) (by kernel_rfl) (by kernel_rfl) (fun _ _ _ h => h) (Or.inr ⟨by rfl, rfl⟩) (⟨z1, z2, z3, z4⟩) ?_
                try simp only [Act.put, List.setIfInBounds_toArray, List.set_cons_zero, List.set_cons_succ]
                refine wpAnyH_take (i := 7) (oi := ({ dst := some 144, op := Op.move (Operand.tmp 18), type := 4, pos := _, after := #[{ on := 6, ground := Ground.guard }], guard := some (6, false) } : Oper)) (v := undef) rfl (by kernel_rfl) (by kernel_rfl) (by kernel_rfl) (fun _ _ _ h => h) (Or.inr ⟨by rfl, rfl⟩) (⟨z1, z2, z3, z4⟩) ?_
                try simp only [Act.put, List.setIfInBounds_toArray, List.set_cons_zero, List.set_cons_succ]
                refine wpAnyH_take (i := 8) (oi := ({ dst := some 145, op := Op.pick (Operand.tmp 143) (Operand.const (Value.bool true)) (Operand.tmp 144), type := 4, pos := _, after := #[{ on := 6, ground := Ground.data }, { on := 7, ground := Ground.data }, { on := 2, ground := Ground.guard }], guard := some (2, true) } : Oper)) (v := undef) rfl (by kernel_rfl) (by kernel_rfl) (by kernel_rfl) (fun _ _ _ h => h) (Or.inr ⟨by rfl, rfl⟩) (⟨z1, z2, z3, z4⟩) ?_
                try simp only [Act.put, List.setIfInBounds_toArray, List.set_cons_zero, List.set_cons_succ]
                refine wpAnyH_take (i := 9) (oi := ({ dst := some 146, op := Op.move (Operand.tmp 145), type := 4, pos := _, after := #[{ on := 8, ground := Ground.data }, { on := 6, ground := Ground.chain }, { on := 2, ground := Ground.guard }], guard := some (2, true) } : Oper)) (v := undef) rfl (by kernel_rfl) (by kernel_rfl) (by kernel_rfl) (fun _ _ _ h => h) (Or.inr ⟨by rfl, rfl⟩) (⟨z1, z2, z3, z4⟩) ?_
                try simp only [Act.put, List.setIfInBounds_toArray, List.set_cons_zero, List.set_cons_succ]
                refine wpAnyH_take (i := 10) (oi := ({ dst := some 147, op := Op.move (Operand.tmp 5), type := 25, pos := _, after := #[{ on := 9, ground := Ground.guard }], guard := some (9, false) } : Oper)) (v := undef) rfl (by kernel_rfl) (by kernel_rfl) (by kernel_rfl) (fun _ _ _ h => h) (Or.inr ⟨by rfl, rfl⟩) (⟨z1, z2, z3, z4⟩) ?_
                try simp only [Act.put, List.setIfInBounds_toArray, List.set_cons_zero, List.set_cons_succ]
                refine wpAnyH_take (i := 11) (oi := ({ dst := some 148, op := Op.call { callee := Callee.value (Operand.func 18), args := #[Operand.tmp 147], argTypes := #[25] }, type := 27, pos := _, after := #[{ on := 10, ground := Ground.data }, { on := 9, ground := Ground.chain }, { on := 9, ground := Ground.guard }], guard := some (9, false) } : Oper)) (v := undef) rfl (by kernel_rfl) (by kernel_rfl) (by kernel_rfl) (fun _ _ _ h => h) (Or.inr ⟨by rfl, rfl⟩) (⟨z1, z2, z3, z4⟩) ?_
                try simp only [Act.put, List.setIfInBounds_toArray, List.set_cons_zero, List.set_cons_succ]
                refine wpAnyH_take (i := 12) (oi := ({ dst := some 149, op := Op.binOp BinOp.neq 27 (Operand.tmp 148) (Operand.const (Value.int IntKind.u64 0)) 27, type := 4, pos := _, after := #[{ on := 11, ground := Ground.data }, { on := 9, ground := Ground.guard }], guard := some (9, false) } : Oper)) (v := undef) rfl (by kernel_rfl) (by kernel_rfl) (by kernel_rfl) (fun _ _ _ h => h) (Or.inr ⟨by rfl, rfl⟩) (⟨z1, z2, z3, z4⟩) ?_
                try simp only [Act.put, List.setIfInBounds_toArray, List.set_cons_zero, List.set_cons_succ]
                refine wpAnyH_take (i := 13) (oi := ({ dst := some 150, op := Op.pick (Operand.tmp 146) (Operand.const (Value.bool true)) (Operand.tmp 149), type := 4, pos := _, after := #[{ on := 9, ground := Ground.data }, { on := 12, ground := Ground.data }, { on := 2, ground := Ground.guard }], guard := some (2, true) } : Oper)) (v := undef) rfl (by kernel_rfl) (by kernel_rfl) (by kernel_rfl) (fun _ _ _ h => h) (Or.inr ⟨by rfl, rfl⟩) (⟨z1, z2, z3, z4⟩) ?_
                try simp only [Act.put, List.setIfInBounds_toArray, List.set_cons_zero, List.set_cons_succ]
                refine wpAnyH_take (i := 14) (oi := ({ dst := some 151, op := Op.pick (Operand.tmp 139) (Operand.tmp 150) (Operand.const (Value.bool false)), type := 4, pos := _, after := #[{ on := 2, ground := Ground.data }, { on := 13, ground := Ground.data }], guard := none } : Oper)) (v := ?_) rfl (by kernel_rfl) (by kernel_rfl) (by kernel_rfl) (fun _ _ _ h => h) (Or.inl ⟨by rfl, ?_⟩) (⟨z1, z2, z3, z4⟩) ?_
                rotate_left
                · intro w hSw
                  try dsimp only at hSw
                  go_simp
                  try with_reducible rfl
                try simp only [Act.put, List.setIfInBounds_toArray, List.set_cons_zero, List.set_cons_succ]
                refine wpAnyH_take (i := 15) (oi := ({ dst := some 152, op := Op.move (Operand.tmp 151), type := 4, pos := _, after := #[{ on := 14, ground := Ground.data }, { on := 11, ground := Ground.chain }], guard := none } : Oper)) (v := ?_) rfl (by kernel_rfl) (by kernel_rfl) (by kernel_rfl) (fun _ _ _ h => h) (Or.inl ⟨by rfl, ?_⟩) (⟨z1, z2, z3, z4⟩) ?_
                rotate_left
                · intro w hSw
                  try dsimp only at hSw
                  go_simp
                  try with_reducible rfl
                try simp only [Act.put, List.setIfInBounds_toArray, List.set_cons_zero, List.set_cons_succ]
                refine wpAnyH_take (i := 16) (oi := ({ dst := some 153, op := Op.move (Operand.tmp 6), type := 50, pos := _, after := #[{ on := 15, ground := Ground.guard }], guard := some (15, false) } : Oper)) (v := ?_) rfl (by kernel_rfl) (by kernel_rfl) (by kernel_rfl) (fun _ _ _ h => h) (Or.inl ⟨by rfl, ?_⟩) (⟨z1, z2, z3, z4⟩) ?_
                rotate_left
                · intro w hSw
                  try dsimp only at hSw
                  go_simp
                  try with_reducible rfl
                try simp only [Act.put, List.setIfInBounds_toArray, List.set_cons_zero, List.set_cons_succ]
                refine wpAnyH_take (i := 17) (oi := ({ dst := some 154, op := Op.binOp BinOp.neq 50 (Operand.tmp 153) (Operand.const (Value.pointer none)) 50, type := 4, pos := _, after := #[{ on := 16, ground := Ground.data }, { on := 15, ground := Ground.guard }], guard := some (15, false) } : Oper)) (v := ?_) rfl (by kernel_rfl) (by kernel_rfl) (by kernel_rfl) (fun _ _ _ h => h) (Or.inl ⟨by rfl, ?_⟩) (⟨z1, z2, z3, z4⟩) ?_
                rotate_left
                · intro w hSw
                  try dsimp only at hSw
                  go_simp
                  try with_reducible rfl
                try simp only [Act.put, List.setIfInBounds_toArray, List.set_cons_zero, List.set_cons_succ]
                refine wpAnyH_take (i := 18) (oi := ({ dst := some 155, op := Op.move (Operand.tmp 154), type := 4, pos := _, after := #[{ on := 17, ground := Ground.data }, { on := 15, ground := Ground.chain }, { on := 15, ground := Ground.guard }], guard := some (15, false) } : Oper)) (v := ?_) rfl (by kernel_rfl) (by kernel_rfl) (by kernel_rfl) (fun _ _ _ h => h) (Or.inl ⟨by rfl, ?_⟩) (⟨z1, z2, z3, z4⟩) ?_
                rotate_left
                · intro w hSw
                  try dsimp only at hSw
                  go_simp
                  try with_reducible rfl
                try simp only [Act.put, List.setIfInBounds_toArray, List.set_cons_zero, List.set_cons_succ]
                refine wpAnyH_take (i := 19) (oi := ({ dst := some 156, op := Op.move (Operand.tmp 5), type := 25, pos := _, after := #[{ on := 18, ground := Ground.guard }], guard := some (18, true) } : Oper)) (v := ?_) rfl (by kernel_rfl) (by kernel_rfl) (by kernel_rfl) (fun _ _ _ h => h) (Or.inl ⟨by rfl, ?_⟩) (⟨z1, z2, z3, z4⟩) ?_
                rotate_left
                · intro w hSw
                  try dsimp only at hSw
                  go_simp
                  try with_reducible rfl
                try simp only [Act.put, List.setIfInBounds_toArray, List.set_cons_zero, List.set_cons_succ]
                refine wpAnyH_take (i := 21) (oi := ({ dst := some 158, op := Op.move (Operand.tmp 6), type := 50, pos := _, after := #[{ on := 18, ground := Ground.guard }], guard := some (18, true) } : Oper)) (v := ?_) rfl (by kernel_rfl) (by kernel_rfl) (by kernel_rfl) (fun _ _ _ h => h) (Or.inl ⟨by rfl, ?_⟩) (⟨z1, z2, z3, z4⟩) ?_
                rotate_left
                · intro w hSw
                  try dsimp only at hSw
                  go_simp
                  try with_reducible rfl
                try simp only [Act.put, List.setIfInBounds_toArray, List.set_cons_zero, List.set_cons_succ]
                refine wpAnyH_take (i := 22) (oi := ({ dst := some 159, op := Op.nilCheck (Operand.tmp 158), type := 0, pos := _, after := #[{ on := 21, ground := Ground.data }, { on := 18, ground := Ground.guard }], guard := some (18, true) } : Oper)) (v := ?_) rfl (by kernel_rfl) (by kernel_rfl) (by kernel_rfl) (fun _ _ _ h => h) (Or.inl ⟨by rfl, ?_⟩) (⟨z1, z2, z3, z4⟩) ?_
                rotate_left
                · intro w hSw
                  try dsimp only at hSw
                  go_simp
                  try with_reducible rfl
                try simp only [Act.put, List.setIfInBounds_toArray, List.set_cons_zero, List.set_cons_succ]
                refine wpAnyH_take (i := 23) (oi := ({ dst := some 160, op := Op.fieldAddr 59 (Operand.tmp 159) 2, type := 0, pos := _, after := #[{ on := 22, ground := Ground.data }, { on := 18, ground := Ground.guard }], guard := some (18, true) } : Oper)) (v := ?_) rfl (by kernel_rfl) (by kernel_rfl) (by kernel_rfl) (fun _ _ _ h => h) (Or.inl ⟨by rfl, ?_⟩) (⟨z1, z2, z3, z4⟩) ?_
                rotate_left
                · intro w hSw
                  try dsimp only at hSw
                  go_simp
                  try with_reducible rfl
                try simp only [Act.put, List.setIfInBounds_toArray, List.set_cons_zero, List.set_cons_succ]
                refine wpAnyH_take (i := 24) (oi := ({ dst := some 161, op := Op.load 27 (Operand.tmp 160), type := 27, pos := _, after := #[{ on := 23, ground := Ground.data }, { on := 18, ground := Ground.guard }], guard := some (18, true) } : Oper)) (v := ?_) rfl (by kernel_rfl) (by kernel_rfl) (by kernel_rfl) (fun _ _ _ h => h) (Or.inl ⟨by rfl, ?_⟩) (⟨z1, z2, z3, z4⟩) ?_
                rotate_left
                · intro w hSw
                  try dsimp only at hSw
                  go_simp
                  try with_reducible rfl
                try simp only [Act.put, List.setIfInBounds_toArray, List.set_cons_zero, List.set_cons_succ]
                refine wpAnyH_ready (rs := [20]) (by kernel_rfl) (by simp) ?_
                refine AllReadyH.cons (o := ({ dst := some 157, op := Op.call { callee := Callee.value (Operand.func 21), args := #[Operand.tmp 156], argTypes := #[25] }, type := 27, pos := _, after := #[{ on := 19, ground := Ground.data }, { on := 18, ground := Ground.chain }, { on := 18, ground := Ground.guard }], guard := some (18, true) } : Oper)) rfl (fun K hK => ?_) AllReadyH.nil
                go_simp
                go_at_call 21
                (with_reducible refine h21.mono ?_)
                rintro e wz ⟨rfl, rfl⟩
                refine hK.out _ _ (⟨z1, z2, z3, z4⟩) (fun _ => ?_)
                clear hK K
                try simp only [Act.put, List.setIfInBounds_toArray, List.set_cons_zero, List.set_cons_succ]
                refine wpAnyH_take (i := 25) (oi := ({ dst := some 162, op := Op.binOp BinOp.neq 27 (Operand.tmp 157) (Operand.tmp 161) 27, type := 4, pos := _, after := #[{ on := 20, ground := Ground.data }, { on := 24, ground := Ground.data }, { on := 18, ground := Ground.guard }], guard := some (18, true) } : Oper)) (v := ?_) rfl (by kernel_rfl) (by kernel_rfl) (by kernel_rfl) (fun _ _ _ h => h) (Or.inl ⟨by rfl, ?_⟩) (⟨z1, z2, z3, z4⟩) ?_
                rotate_left
                · intro w hSw
                  try dsimp only at hSw
                  go_simp
                  try with_reducible rfl
                try simp only [Act.put, List.setIfInBounds_toArray, List.set_cons_zero, List.set_cons_succ]
                refine wpAnyH_take (i := 26) (oi := ({ dst := some 163, op := Op.move (Operand.tmp 162), type := 4, pos := _, after := #[{ on := 25, ground := Ground.data }, { on := 20, ground := Ground.chain }, { on := 18, ground := Ground.guard }], guard := some (18, true) } : Oper)) (v := ?_) rfl (by kernel_rfl) (by kernel_rfl) (by kernel_rfl) (fun _ _ _ h => h) (Or.inl ⟨by rfl, ?_⟩) (⟨z1, z2, z3, z4⟩) ?_
                rotate_left
                · intro w hSw
                  try dsimp only at hSw
                  go_simp
                  try with_reducible rfl
                try simp only [Act.put, List.setIfInBounds_toArray, List.set_cons_zero, List.set_cons_succ]
                refine wpAnyH_take (i := 27) (oi := ({ dst := some 164, op := Op.move (Operand.tmp 18), type := 4, pos := _, after := #[{ on := 26, ground := Ground.guard }], guard := some (26, false) } : Oper)) (v := ?_) rfl (by kernel_rfl) (by kernel_rfl) (by kernel_rfl) (fun _ _ _ h => h) (Or.inl ⟨by rfl, ?_⟩) (⟨z1, z2, z3, z4⟩) ?_
                rotate_left
                · intro w hSw
                  try dsimp only at hSw
                  go_simp
                  try with_reducible rfl
                try simp only [Act.put, List.setIfInBounds_toArray, List.set_cons_zero, List.set_cons_succ]
                refine wpAnyH_take (i := 28) (oi := ({ dst := some 165, op := Op.move (Operand.tmp 6), type := 50, pos := _, after := #[{ on := 26, ground := Ground.guard }], guard := some (26, false) } : Oper)) (v := ?_) rfl (by kernel_rfl) (by kernel_rfl) (by kernel_rfl) (fun _ _ _ h => h) (Or.inl ⟨by rfl, ?_⟩) (⟨z1, z2, z3, z4⟩) ?_
                rotate_left
                · intro w hSw
                  try dsimp only at hSw
                  go_simp
                  try with_reducible rfl
                try simp only [Act.put, List.setIfInBounds_toArray, List.set_cons_zero, List.set_cons_succ]
                refine wpAnyH_take (i := 29) (oi := ({ dst := some 166, op := Op.nilCheck (Operand.tmp 165), type := 0, pos := _, after := #[{ on := 28, ground := Ground.data }, { on := 26, ground := Ground.guard }], guard := some (26, false) } : Oper)) (v := ?_) rfl (by kernel_rfl) (by kernel_rfl) (by kernel_rfl) (fun _ _ _ h => h) (Or.inl ⟨by rfl, ?_⟩) (⟨z1, z2, z3, z4⟩) ?_
                rotate_left
                · intro w hSw
                  try dsimp only at hSw
                  go_simp
                  try with_reducible rfl
                try simp only [Act.put, List.setIfInBounds_toArray, List.set_cons_zero, List.set_cons_succ]
                refine wpAnyH_take (i := 30) (oi := ({ dst := some 167, op := Op.fieldAddr 59 (Operand.tmp 166) 4, type := 0, pos := _, after := #[{ on := 29, ground := Ground.data }, { on := 26, ground := Ground.guard }], guard := some (26, false) } : Oper)) (v := ?_) rfl (by kernel_rfl) (by kernel_rfl) (by kernel_rfl) (fun _ _ _ h => h) (Or.inl ⟨by rfl, ?_⟩) (⟨z1, z2, z3, z4⟩) ?_
                rotate_left
                · intro w hSw
                  try dsimp only at hSw
                  go_simp
                  try with_reducible rfl
                try simp only [Act.put, List.setIfInBounds_toArray, List.set_cons_zero, List.set_cons_succ]
                refine wpAnyH_take (i := 31) (oi := ({ dst := some 168, op := Op.load 4 (Operand.tmp 167), type := 4, pos := _, after := #[{ on := 30, ground := Ground.data }, { on := 26, ground := Ground.guard }], guard := some (26, false) } : Oper)) (v := ?_) rfl (by kernel_rfl) (by kernel_rfl) (by kernel_rfl) (fun _ _ _ h => h) (Or.inl ⟨by rfl, ?_⟩) (⟨z1, z2, z3, z4⟩) ?_
                rotate_left
                · intro w hSw
                  try dsimp only at hSw
                  go_simp
                  try with_reducible rfl
                try simp only [Act.put, List.setIfInBounds_toArray, List.set_cons_zero, List.set_cons_succ]
                refine wpAnyH_take (i := 32) (oi := ({ dst := some 169, op := Op.binOp BinOp.neq 4 (Operand.tmp 164) (Operand.tmp 168) 4, type := 4, pos := _, after := #[{ on := 27, ground := Ground.data }, { on := 31, ground := Ground.data }, { on := 26, ground := Ground.guard }], guard := some (26, false) } : Oper)) (v := ?_) rfl (by kernel_rfl) (by kernel_rfl) (by kernel_rfl) (fun _ _ _ h => h) (Or.inl ⟨by rfl, ?_⟩) (⟨z1, z2, z3, z4⟩) ?_
                rotate_left
                · intro w hSw
                  try dsimp only at hSw
                  go_simp
                  try with_reducible rfl
                try simp only [Act.put, List.setIfInBounds_toArray, List.set_cons_zero, List.set_cons_succ]
                refine wpAnyH_take (i := 33) (oi := ({ dst := some 170, op := Op.pick (Operand.tmp 163) (Operand.const (Value.bool true)) (Operand.tmp 169), type := 4, pos := _, after := #[{ on := 26, ground := Ground.data }, { on := 32, ground := Ground.data }, { on := 18, ground := Ground.guard }], guard := some (18, true) } : Oper)) (v := ?_) rfl (by kernel_rfl) (by kernel_rfl) (by kernel_rfl) (fun _ _ _ h => h) (Or.inl ⟨by rfl, ?_⟩) (⟨z1, z2, z3, z4⟩) ?_
                rotate_left
                · intro w hSw
                  try dsimp only at hSw
                  go_simp
                  try with_reducible rfl
                try simp only [Act.put, List.setIfInBounds_toArray, List.set_cons_zero, List.set_cons_succ]
                refine wpAnyH_take (i := 34) (oi := ({ dst := some 171, op := Op.move (Operand.tmp 170), type := 4, pos := _, after := #[{ on := 33, ground := Ground.data }, { on := 26, ground := Ground.chain }, { on := 18, ground := Ground.guard }], guard := some (18, true) } : Oper)) (v := ?_) rfl (by kernel_rfl) (by kernel_rfl) (by kernel_rfl) (fun _ _ _ h => h) (Or.inl ⟨by rfl, ?_⟩) (⟨z1, z2, z3, z4⟩) ?_
                rotate_left
                · intro w hSw
                  try dsimp only at hSw
                  go_simp
                  try with_reducible rfl
                try simp only [Act.put, List.setIfInBounds_toArray, List.set_cons_zero, List.set_cons_succ]
                refine wpAnyH_take (i := 35) (oi := ({ dst := some 172, op := Op.move (Operand.tmp 18), type := 4, pos := _, after := #[{ on := 34, ground := Ground.guard }], guard := some (34, false) } : Oper)) (v := ?_) rfl (by kernel_rfl) (by kernel_rfl) (by kernel_rfl) (fun _ _ _ h => h) (Or.inl ⟨by rfl, ?_⟩) (⟨z1, z2, z3, z4⟩) ?_
                rotate_left
                · intro w hSw
                  try dsimp only at hSw
                  go_simp
                  try with_reducible rfl
                try simp only [Act.put, List.setIfInBounds_toArray, List.set_cons_zero, List.set_cons_succ]
                refine wpAnyH_take (i := 36) (oi := ({ dst := some 173, op := Op.move (Operand.tmp 172), type := 4, pos := _, after := #[{ on := 35, ground := Ground.data }, { on := 34, ground := Ground.chain }, { on := 34, ground := Ground.guard }], guard := some (34, false) } : Oper)) (v := ?_) rfl (by kernel_rfl) (by kernel_rfl) (by kernel_rfl) (fun _ _ _ h => h) (Or.inl ⟨by rfl, ?_⟩) (⟨z1, z2, z3, z4⟩) ?_
                rotate_left
                · intro w hSw
                  try dsimp only at hSw
                  go_simp
                  try with_reducible rfl
                try simp only [Act.put, List.setIfInBounds_toArray, List.set_cons_zero, List.set_cons_succ]
                refine wpAnyH_take (i := 37) (oi := ({ dst := some 174, op := Op.move (Operand.tmp 17), type := 27, pos := _, after := #[{ on := 36, ground := Ground.guard }], guard := some (36, true) } : Oper)) (v := undef) rfl (by kernel_rfl) (by kernel_rfl) (by kernel_rfl) (fun _ _ _ h => h) (Or.inr ⟨by rfl, rfl⟩) (⟨z1, z2, z3, z4⟩) ?_
                try simp only [Act.put, List.setIfInBounds_toArray, List.set_cons_zero, List.set_cons_succ]
                refine wpAnyH_take (i := 38) (oi := ({ dst := some 175, op := Op.move (Operand.tmp 6), type := 50, pos := _, after := #[{ on := 36, ground := Ground.guard }], guard := some (36, true) } : Oper)) (v := undef) rfl (by kernel_rfl) (by kernel_rfl) (by kernel_rfl) (fun _ _ _ h => h) (Or.inr ⟨by rfl, rfl⟩) (⟨z1, z2, z3, z4⟩) ?_
                try simp only [Act.put, List.setIfInBounds_toArray, List.set_cons_zero, List.set_cons_succ]
                refine wpAnyH_take (i := 39) (oi := ({ dst := some 176, op := Op.nilCheck (Operand.tmp 175), type := 0, pos := _, after := #[{ on := 38, ground := Ground.data }, { on := 36, ground := Ground.guard }], guard := some (36, true) } : Oper)) (v := undef) rfl (by kernel_rfl) (by kernel_rfl) (by kernel_rfl) (fun _ _ _ h => h) (Or.inr ⟨by rfl, rfl⟩) (⟨z1, z2, z3, z4⟩) ?_
                try simp only [Act.put, List.setIfInBounds_toArray, List.set_cons_zero, List.set_cons_succ]
                refine wpAnyH_take (i := 40) (oi := ({ dst := some 177, op := Op.fieldAddr 59 (Operand.tmp 176) 3, type := 0, pos := _, after := #[{ on := 39, ground := Ground.data }, { on := 36, ground := Ground.guard }], guard := some (36, true) } : Oper)) (v := undef) rfl (by kernel_rfl) (by kernel_rfl) (by kernel_rfl) (fun _ _ _ h => h) (Or.inr ⟨by rfl, rfl⟩) (⟨z1, z2, z3, z4⟩) ?_
                try simp only [Act.put, List.setIfInBounds_toArray, List.set_cons_zero, List.set_cons_succ]
                refine wpAnyH_take (i := 41) (oi := ({ dst := some 178, op := Op.load 27 (Operand.tmp 177), type := 27, pos := _, after := #[{ on := 40, ground := Ground.data }, { on := 36, ground := Ground.guard }], guard := some (36, true) } : Oper)) (v := undef) rfl (by kernel_rfl) (by kernel_rfl) (by kernel_rfl) (fun _ _ _ h => h) (Or.inr ⟨by rfl, rfl⟩) (⟨z1, z2, z3, z4⟩) ?_
                try simp only [Act.put, List.setIfInBounds_toArray, List.set_cons_zero, List.set_cons_succ]
                refine wpAnyH_take (i := 42) (oi := ({ dst := some 179, op := Op.binOp BinOp.neq 27 (Operand.tmp 174) (Operand.tmp 178) 27, type := 4, pos := _, after := #[{ on := 37, ground := Ground.data }, { on := 41, ground := Ground.data }, { on := 36, ground := Ground.guard }], guard := some (36, true) } : Oper)) (v := undef) rfl (by kernel_rfl) (by kernel_rfl) (by kernel_rfl) (fun _ _ _ h => h) (Or.inr ⟨by rfl, rfl⟩) (⟨z1, z2, z3, z4⟩) ?_
                try simp only [Act.put, List.setIfInBounds_toArray, List.set_cons_zero, List.set_cons_succ]
                refine wpAnyH_take (i := 43) (oi := ({ dst := some 180, op := Op.pick (Operand.tmp 173) (Operand.tmp 179) (Operand.const (Value.bool false)), type := 4, pos := _, after := #[{ on := 36, ground := Ground.data }, { on := 42, ground := Ground.data }, { on := 34, ground := Ground.guard }], guard := some (34, false) } : Oper)) (v := ?_) rfl (by kernel_rfl) (by kernel_rfl) (by kernel_rfl) (fun _ _ _ h => h) (Or.inl ⟨by rfl, ?_⟩) (⟨z1, z2, z3, z4⟩) ?_
                rotate_left
                · intro w hSw
                  try dsimp only at hSw
                  go_simp
                  try with_reducible rfl
                try simp only [Act.put, List.setIfInBounds_toArray, List.set_cons_zero, List.set_cons_succ]
                refine wpAnyH_take (i := 44) (oi := ({ dst := some 181, op := Op.pick (Operand.tmp 171) (Operand.const (Value.bool true)) (Operand.tmp 180), type := 4, pos := _, after := #[{ on := 34, ground := Ground.data }, { on := 43, ground := Ground.data }, { on := 18, ground := Ground.guard }], guard := some (18, true) } : Oper)) (v := ?_) rfl (by kernel_rfl) (by kernel_rfl) (by kernel_rfl) (fun _ _ _ h => h) (Or.inl ⟨by rfl, ?_⟩) (⟨z1, z2, z3, z4⟩) ?_
                rotate_left
                · intro w hSw
                  try dsimp only at hSw
                  go_simp
                  try with_reducible rfl
                try simp only [Act.put, List.setIfInBounds_toArray, List.set_cons_zero, List.set_cons_succ]
                refine wpAnyH_take (i := 45) (oi := ({ dst := some 182, op := Op.move (Operand.tmp 181), type := 4, pos := _, after := #[{ on := 44, ground := Ground.data }, { on := 36, ground := Ground.chain }, { on := 18, ground := Ground.guard }], guard := some (18, true) } : Oper)) (v := ?_) rfl (by kernel_rfl) (by kernel_rfl) (by kernel_rfl) (fun _ _ _ h => h) (Or.inl ⟨by rfl, ?_⟩) (⟨z1, z2, z3, z4⟩) ?_
                rotate_left
                · intro w hSw
                  try dsimp only at hSw
                  go_simp
                  try with_reducible rfl
                try simp only [Act.put, List.setIfInBounds_toArray, List.set_cons_zero, List.set_cons_succ]
                refine wpAnyH_take (i := 46) (oi := ({ dst := some 183, op := Op.move (Operand.tmp 5), type := 25, pos := _, after := #[{ on := 45, ground := Ground.guard }], guard := some (45, false) } : Oper)) (v := ?_) rfl (by kernel_rfl) (by kernel_rfl) (by kernel_rfl) (fun _ _ _ h => h) (Or.inl ⟨by rfl, ?_⟩) (⟨z1, z2, z3, z4⟩) ?_
                rotate_left
                · intro w hSw
                  try dsimp only at hSw
                  go_simp
                  try with_reducible rfl
                try simp only [Act.put, List.setIfInBounds_toArray, List.set_cons_zero, List.set_cons_succ]
                refine wpAnyH_take (i := 48) (oi := ({ dst := some 185, op := Op.move (Operand.tmp 6), type := 50, pos := _, after := #[{ on := 45, ground := Ground.guard }], guard := some (45, false) } : Oper)) (v := ?_) rfl (by kernel_rfl) (by kernel_rfl) (by kernel_rfl) (fun _ _ _ h => h) (Or.inl ⟨by rfl, ?_⟩) (⟨z1, z2, z3, z4⟩) ?_
                rotate_left
                · intro w hSw
                  try dsimp only at hSw
                  go_simp
                  try with_reducible rfl
                try simp only [Act.put, List.setIfInBounds_toArray, List.set_cons_zero, List.set_cons_succ]
                refine wpAnyH_take (i := 49) (oi := ({ dst := some 186, op := Op.nilCheck (Operand.tmp 185), type := 0, pos := _, after := #[{ on := 48, ground := Ground.data }, { on := 45, ground := Ground.guard }], guard := some (45, false) } : Oper)) (v := ?_) rfl (by kernel_rfl) (by kernel_rfl) (by kernel_rfl) (fun _ _ _ h => h) (Or.inl ⟨by rfl, ?_⟩) (⟨z1, z2, z3, z4⟩) ?_
                rotate_left
                · intro w hSw
                  try dsimp only at hSw
                  go_simp
                  try with_reducible rfl
                try simp only [Act.put, List.setIfInBounds_toArray, List.set_cons_zero, List.set_cons_succ]
                refine wpAnyH_take (i := 50) (oi := ({ dst := some 187, op := Op.fieldAddr 59 (Operand.tmp 186) 1, type := 0, pos := _, after := #[{ on := 49, ground := Ground.data }, { on := 45, ground := Ground.guard }], guard := some (45, false) } : Oper)) (v := ?_) rfl (by kernel_rfl) (by kernel_rfl) (by kernel_rfl) (fun _ _ _ h => h) (Or.inl ⟨by rfl, ?_⟩) (⟨z1, z2, z3, z4⟩) ?_
                rotate_left
                · intro w hSw
                  try dsimp only at hSw
                  go_simp
                  try with_reducible rfl
                try simp only [Act.put, List.setIfInBounds_toArray, List.set_cons_zero, List.set_cons_succ]
                refine wpAnyH_take (i := 51) (oi := ({ dst := some 188, op := Op.load 27 (Operand.tmp 187), type := 27, pos := _, after := #[{ on := 50, ground := Ground.data }, { on := 45, ground := Ground.guard }], guard := some (45, false) } : Oper)) (v := ?_) rfl (by kernel_rfl) (by kernel_rfl) (by kernel_rfl) (fun _ _ _ h => h) (Or.inl ⟨by rfl, ?_⟩) (⟨z1, z2, z3, z4⟩) ?_
                rotate_left
                · intro w hSw
                  try dsimp only at hSw
                  go_simp
                  try with_reducible rfl
                try simp only [Act.put, List.setIfInBounds_toArray, List.set_cons_zero, List.set_cons_succ]
                refine wpAnyH_ready (rs := [47]) (by kernel_rfl) (by simp) ?_
                refine AllReadyH.cons (o := ({ dst := some 184, op := Op.call { callee := Callee.value (Operand.func 18), args := #[Operand.tmp 183], argTypes := #[25] }, type := 27, pos := _, after := #[{ on := 46, ground := Ground.data }, { on := 45, ground := Ground.chain }, { on := 45, ground := Ground.guard }], guard := some (45, false) } : Oper)) rfl (fun K hK => ?_) AllReadyH.nil
                go_simp
                go_at_call 18
                (with_reducible refine h18.mono ?_)
                rintro e wz ⟨rfl, rfl⟩
                refine hK.out _ _ (⟨z1, z2, z3, z4⟩) (fun _ => ?_)
                clear hK K
                try simp only [Act.put, List.setIfInBounds_toArray, List.set_cons_zero, List.set_cons_succ]
                refine wpAnyH_take (i := 52) (oi := ({ dst := some 189, op := Op.binOp BinOp.neq 27 (Operand.tmp 184) (Operand.tmp 188) 27, type := 4, pos := _, after := #[{ on := 47, ground := Ground.data }, { on := 51, ground := Ground.data }, { on := 45, ground := Ground.guard }], guard := some (45, false) } : Oper)) (v := ?_) rfl (by kernel_rfl) (by kernel_rfl) (by kernel_rfl) (fun _ _ _ h => h) (Or.inl ⟨by rfl, ?_⟩) (⟨z1, z2, z3, z4⟩) ?_
                rotate_left
                · intro w hSw
                  try dsimp only at hSw
                  go_simp
                  try with_reducible rfl
                try simp only [Act.put, List.setIfInBounds_toArray, List.set_cons_zero, List.set_cons_succ]
                refine wpAnyH_take (i := 53) (oi := ({ dst := some 190, op := Op.pick (Operand.tmp 182) (Operand.const (Value.bool true)) (Operand.tmp 189), type := 4, pos := _, after := #[{ on := 45, ground := Ground.data }, { on := 52, ground := Ground.data }, { on := 18, ground := Ground.guard }], guard := some (18, true) } : Oper)) (v := ?_) rfl (by kernel_rfl) (by kernel_rfl) (by kernel_rfl) (fun _ _ _ h => h) (Or.inl ⟨by rfl, ?_⟩) (⟨z1, z2, z3, z4⟩) ?_
                rotate_left
                · intro w hSw
                  try dsimp only at hSw
                  go_simp
                  try with_reducible rfl
                try simp only [Act.put, List.setIfInBounds_toArray, List.set_cons_zero, List.set_cons_succ]
                refine wpAnyH_take (i := 54) (oi := ({ dst := some 191, op := Op.pick (Operand.tmp 155) (Operand.tmp 190) (Operand.const (Value.bool false)), type := 4, pos := _, after := #[{ on := 18, ground := Ground.data }, { on := 53, ground := Ground.data }, { on := 15, ground := Ground.guard }], guard := some (15, false) } : Oper)) (v := ?_) rfl (by kernel_rfl) (by kernel_rfl) (by kernel_rfl) (fun _ _ _ h => h) (Or.inl ⟨by rfl, ?_⟩) (⟨z1, z2, z3, z4⟩) ?_
                rotate_left
                · intro w hSw
                  try dsimp only at hSw
                  go_simp
                  try with_reducible rfl
                try simp only [Act.put, List.setIfInBounds_toArray, List.set_cons_zero, List.set_cons_succ]
                refine wpAnyH_take (i := 55) (oi := ({ dst := some 192, op := Op.pick (Operand.tmp 152) (Operand.const (Value.bool true)) (Operand.tmp 191), type := 4, pos := _, after := #[{ on := 15, ground := Ground.data }, { on := 54, ground := Ground.data }], guard := none } : Oper)) (v := ?_) rfl (by kernel_rfl) (by kernel_rfl) (by kernel_rfl) (fun _ _ _ h => h) (Or.inl ⟨by rfl, ?_⟩) (⟨z1, z2, z3, z4⟩) ?_
                rotate_left
                · intro w hSw
                  try dsimp only at hSw
                  go_simp
                  try with_reducible rfl
                try simp only [Act.put, List.setIfInBounds_toArray, List.set_cons_zero, List.set_cons_succ]
                refine wpAnyH_done (by kernel_rfl) ?_ _
                go_wp2_with fail
                go_roundw
                case rel => exact ⟨i + 1, _, es', by go_num, by omega, by rw [HM1.out]; exact HPZ.out⟩
                case measure => simp [intOf]; omega
      · have h40I : (40 : Int) ≤ (i : Int) := by omega
        have hba : Below wr.heap.size wr (wr.alloc (.cells #[.int .u8 d_, .int .u64 of, .slice VA ll.length vc, .bool en_, .int .i64 mm] 44)) := (Below.refl _ _).alloc (Nat.le_refl _) _
        have HBA := Lib.hid hba
        clear hba
        go_wp2_with fail
        go_ret
        exact ⟨rfl, hP.be.trans (HBA.out.mono hP.be.size)⟩
    · obtain rfl : i = N := by omega
      go_wp2_with fail
      go_ret
      exact ⟨rfl, hP.be⟩

end Go.Proofs.Ytpkondemkpogoaa
