/-
  VintJoins: numbers one behind the other are read one by one, each in whichever form it stands. For every input; no condition.
-/
import Derived.Test.YtliagckgollalaaVforms
namespace Go.Proofs.Ytliagckgollalaa
open Go.RowKit
set_option linter.unusedVariables false
set_option linter.unusedSimpArgs false


theorem own_ne {w : World} {b1 b2 : Nat} {e1 e2 : TypeId} {s1 s2 n1 n2 : Nat} {v1 v2 : Value} {x1 x2 : List Value} (h1 : w.ownsRow b1 e1 s1 v1 n1 x1) (h2 : w.ownsRow b2 e2 s2 v2 n2 x2) (hne : e1 ≠ e2) : v2.ownBlock = none ∨ v1.ownBlock ≠ v2.ownBlock := by
  rcases h2.2 with ⟨rfl, _⟩ | ⟨g, cap, cur, rfl, _, hg, _⟩
  · exact .inl rfl
  · exact .inr (own_blk_ne h1 (t := e2) (cs := cur) hg hne)
theorem infoN : (Try.prog.info? 22).map (fun i => (i.zero, i.size, i.bytes)) = some (some (.int .u64 0), 1, 8) := by kernel_rfl

/-- Pairs of a number and a form that it has; their bytes. -/
def Fits (ps : List (Int × Nat)) : Prop := ∀ p ∈ ps, 0 ≤ p.1 ∧ (p.2 = 1 ∨ p.2 = 2 ∨ p.2 = 4 ∨ p.2 = 8) ∧ vsz p.1 ≠ 0 ∧ vsz p.1 ≤ p.2
def joinB (ps : List (Int × Nat)) : List Int := ps.flatMap fun p => vform p.1 p.2
theorem joinB_snoc (ps : List (Int × Nat)) (n : Int) (s : Nat) : joinB (ps ++ [(n, s)]) = joinB ps ++ vform n s := by simp [joinB]
theorem joinB_cons (p : Int × Nat) (ps : List (Int × Nat)) : joinB (p :: ps) = vform p.1 p.2 ++ joinB ps := rfl
theorem joinB_len (ps : List (Int × Nat)) (h : Fits ps) : (joinB ps).length ≤ 8 * ps.length := by
  induction ps with
  | nil => simp [joinB]
  | cons p r ih =>
    have hp := h p (by simp)
    have := ih (fun q hq => h q (by simp [hq]))
    have hl := vform_len p.1 p.2 hp.2.1
    rw [joinB_cons, List.length_append, hl, List.length_cons]
    omega
theorem joinB_ok (ps : List (Int × Nat)) (h : Fits ps) : BytesOk (joinB ps) := by
  induction ps with
  | nil => intro x hx; simp [joinB] at hx
  | cons p r ih =>
    have hp := h p (by simp)
    rw [joinB_cons]
    exact (vform_ok p.1 p.2 hp.1 hp.2.1 hp.2.2.1 hp.2.2.2).append (ih (fun q hq => h q (by simp [hq])))
theorem Fits.snoc {ps : List (Int × Nat)} (h : Fits ps) {n : Int} {s : Nat} (h0 : 0 ≤ n) (hs : s = 1 ∨ s = 2 ∨ s = 4 ∨ s = 8) (h1 : vsz n ≠ 0) (h2 : vsz n ≤ s) : Fits (ps ++ [(n, s)]) := by
  intro p hp
  rcases List.mem_append.1 hp with hp | hp
  · exact h p hp
  · simp at hp; subst hp; exact ⟨h0, hs, h1, h2⟩
theorem Fits.drop {ps : List (Int × Nat)} (h : Fits ps) (j : Nat) : Fits (ps.drop j) := fun p hp => h p (List.mem_of_mem_drop hp)
theorem joinB_take {ps : List (Int × Nat)} (h : Fits ps) {j : Nat} (hj : j < ps.length) : vtake (joinB (ps.drop j)) = some ((ps.map (·.1)).getD j 0, joinB (ps.drop (j + 1))) := by
  rw [List.drop_eq_getElem_cons hj, joinB_cons]
  have hp := h ps[j] (List.getElem_mem hj)
  rw [vtake_form _ _ _ hp.1 hp.2.1 hp.2.2.1 hp.2.2.2]
  simp [List.getD, hj]
theorem vsz_some {n : Int} (h : n ≤ 4611686018427387903) : vsz n ≠ 0 := by
  rcases vsz_cases n with ⟨_, e⟩ | ⟨_, _, e⟩ | ⟨_, _, e⟩ | ⟨_, _, e⟩ | ⟨_, e⟩ <;> omega

set_option maxHeartbeats 8000000 in
set_option maxRecDepth 100000 in
theorem joins_walk (v vs : Value) (l sz : List Int) (w : World) (hl : Rd w .u64 v l) (hs : Rd w .u8 vs sz) (hln : ∀ x ∈ l, 0 ≤ x ∧ x ≤ 18446744073709551615) (hk : BytesOk sz) :
    Calls Try.prog 5 #[v, vs] w fun e w' => e = .returned (.bool true) ∧ Below w.heap.size w w' := by
  obtain ⟨i0, hi, hz0, hz1, hz2⟩ := info_parts infoB
  obtain ⟨i1, hj, hy0, hy1, hy2⟩ := info_parts infoN
  obtain ⟨A, cap, rfl⟩ := hl.form
  obtain ⟨As, caps, rfl⟩ := hs.form
  have hlm : l.length ≤ 9223372036854775807 := by have := hl.rdv.2.2; unfold maxLen at this; omega
  have hsm : sz.length ≤ 9223372036854775807 := by have := hs.rdv.2.2; unfold maxLen at this; omega
  have HL := Lib.hid hl
  have HS := Lib.hid hs
  have HN := Lib.hid hln
  clear hl hs hln
  go_enter Try.func5, Try.ntmps5
  go_wp2_with fail
  refine (awake_any _).mono ?_
  rintro e w1 ⟨rfl, hB⟩
  go_wp2_with fail
  go_loopw [5, 6, 21] (fun p5 w6 i wr => ∃ (pv wv : Value) (k : Nat) (ps : List (Int × Nat)), pv = p5 ∧ wv = w6 ∧ k ≤ l.length ∧ ps.length ≤ k ∧ ps.length ≤ 20 ∧ Fits ps ∧ i = .int .i64 k ∧ wr.ownsRow w.heap.size 5 1 pv (joinB ps).length ((joinB ps).map (Value.int .u8)) ∧ wr.ownsRow w.heap.size 22 1 wv (ps.map (·.1)).length ((ps.map (·.1)).map (Value.int .u64)) ∧ Below w.heap.size w wr) (fun _ _ i _ => l.length - (intOf i).toNat)
  case atStart => exact ⟨_, _, 0, [], rfl, rfl, Nat.zero_le _, Nat.le_refl _, by simp, fun p hp => by simp at hp, rfl, World.ownsRow_nil _ _ _ _, World.ownsRow_nil _ _ _ _, hB⟩
  case round =>
    obtain ⟨pv, wv, k, ps, rfl, rfl, hkl, hpk, hp20, hf, rfl, hop, how, hB⟩ := hrel
    by_cases hlt : k < l.length
    · obtain ⟨b, off, rfl, hb, c0⟩ := (HL.out.below hB).at_ k hlt
      obtain ⟨x, hx⟩ : ∃ x, x = l.getD k 0 := ⟨_, rfl⟩
      have hxb : 0 ≤ x ∧ x ≤ 18446744073709551615 := by rw [hx]; have := HN.out (l[k]) (List.getElem_mem hlt); simpa [List.getD, hlt] using this
      rw [← hx] at c0
      clear hx
      by_cases h20 : (20 : Int) ≤ (k : Int)
      · have hd : decide ((20 : Int) ≤ (k : Int)) = true := by simpa using h20
        go_wp2_with fail
        go_roundw
        case rel => exact ⟨_, _, k + 1, ps, rfl, rfl, by omega, by omega, hp20, hf, by go_num, hop, how, hB⟩
        case measure => simp [intOf]; omega
      · have hd : decide ((20 : Int) ≤ (k : Int)) = false := by simpa using h20
        by_cases hmx : 4611686018427387903 < x
        · have hd2 : decide (4611686018427387903 < x) = true := by simpa using hmx
          go_wp2_with fail
          go_roundw
          case rel => exact ⟨_, _, k + 1, ps, rfl, rfl, by omega, by omega, hp20, hf, by go_num, hop, how, hB⟩
          case measure => simp [intOf]; omega
        · have hd2 : decide (4611686018427387903 < x) = false := by simpa using hmx
          have hv0 := vsz_some (show x ≤ 4611686018427387903 by omega)
          have hvi := vsz_in x hv0
          have hjl := joinB_len ps hf
          have hk20 : k < 20 := by omega
          have HF := Lib.hid hf
          have hmx' : x ≤ 4611686018427387903 := by omega
          clear hf hmx h20
          have hcb : (k : Int) < (20 : Int) := by omega
          go_upto_if 35 with (fail)
          go_cut [9] (fun s9 wx => ∃ s : Nat, s9 = .int .i64 s ∧ (s = 1 ∨ s = 2 ∨ s = 4 ∨ s = 8) ∧ vsz x ≤ s ∧ ∃ q, wx = wr.drewN q)
          case first =>
           by_cases hks : k < sz.length
           · obtain ⟨b2, off2, rfl, hb2, c1⟩ := (HS.out.below hB).at_ k hks
             obtain ⟨y, hy⟩ : ∃ y, y = sz.getD k 0 := ⟨_, rfl⟩
             have hyb : 0 ≤ y ∧ y ≤ 255 := by rw [hy]; exact hk.getD k
             rw [← hy] at c1
             clear hy
             have hm4 : y % 4 = 0 ∨ y % 4 = 1 ∨ y % 4 = 2 ∨ y % 4 = 3 := by omega
             rcases hm4 with hm4 | hm4 | hm4 | hm4
             · have hvc' : (1 : Int) ≤ (vsz x : Int) := by omega
               go_wp2_with fail
               go_quiet ((go_at_call 15; first | exact quiet_one (size_any x _ hxb.1 hxb.2) | exact quiet_add (size_any x _ hxb.1 hxb.2)))
               go_wp2_with fail
               go_meet
               exact ⟨vsz x, rfl, by omega, by omega, nq, rfl⟩
             · by_cases hvc : (vsz x : Int) < 2
               · have hv8 : vsz x ≤ 8 := by omega
                 go_wp2_with fail
                 go_quiet ((go_at_call 15; first | exact quiet_one (size_any x _ hxb.1 hxb.2) | exact quiet_add (size_any x _ hxb.1 hxb.2)))
                 go_wp2_with fail
                 go_meet
                 exact ⟨2, rfl, by omega, by omega, nq, rfl⟩
               · have hvc' : (2 : Int) ≤ (vsz x : Int) := by omega
                 go_wp2_with fail
                 go_quiet ((go_at_call 15; first | exact quiet_one (size_any x _ hxb.1 hxb.2) | exact quiet_add (size_any x _ hxb.1 hxb.2)))
                 go_wp2_with fail
                 go_meet
                 exact ⟨vsz x, rfl, by omega, by omega, nq, rfl⟩
             · by_cases hvc : (vsz x : Int) < 4
               · have hv8 : vsz x ≤ 8 := by omega
                 go_wp2_with fail
                 go_quiet ((go_at_call 15; first | exact quiet_one (size_any x _ hxb.1 hxb.2) | exact quiet_add (size_any x _ hxb.1 hxb.2)))
                 go_wp2_with fail
                 go_meet
                 exact ⟨4, rfl, by omega, by omega, nq, rfl⟩
               · have hvc' : (4 : Int) ≤ (vsz x : Int) := by omega
                 go_wp2_with fail
                 go_quiet ((go_at_call 15; first | exact quiet_one (size_any x _ hxb.1 hxb.2) | exact quiet_add (size_any x _ hxb.1 hxb.2)))
                 go_wp2_with fail
                 go_meet
                 exact ⟨vsz x, rfl, by omega, by omega, nq, rfl⟩
             · by_cases hvc : (vsz x : Int) < 8
               · have hv8 : vsz x ≤ 8 := by omega
                 go_wp2_with fail
                 go_quiet ((go_at_call 15; first | exact quiet_one (size_any x _ hxb.1 hxb.2) | exact quiet_add (size_any x _ hxb.1 hxb.2)))
                 go_wp2_with fail
                 go_meet
                 exact ⟨8, rfl, by omega, by omega, nq, rfl⟩
               · have hvc' : (8 : Int) ≤ (vsz x : Int) := by omega
                 go_wp2_with fail
                 go_quiet ((go_at_call 15; first | exact quiet_one (size_any x _ hxb.1 hxb.2) | exact quiet_add (size_any x _ hxb.1 hxb.2)))
                 go_wp2_with fail
                 go_meet
                 exact ⟨vsz x, rfl, by omega, by omega, nq, rfl⟩
           · go_wp2_with fail
             go_meet
             exact ⟨8, rfl, by omega, by omega, 0, rfl⟩
          case rest =>
           obtain ⟨s, rfl, hss, hsv, q, hwq⟩ := hcut
           obtain ⟨wr', hwr⟩ : ∃ wr', wr' = wr.drewN q := ⟨_, rfl⟩
           rw [hwq, ← hwr]
           have hopd : wr'.ownsRow w.heap.size 5 1 pv (joinB ps).length ((joinB ps).map (Value.int .u8)) := by rw [hwr]; exact hop
           have howd : wr'.ownsRow w.heap.size 22 1 wv (ps.map (·.1)).length ((ps.map (·.1)).map (Value.int .u64)) := by rw [hwr]; exact how
           have hBd : Below w.heap.size w wr' := by rw [hwr]; exact below_drewN hB q
           clear hwr hwq hop how hB c0
           go_wp2_with fail
           refine (show Calls Try.prog 12 #[.int .u64 x, .int .i64 (s : Int)] wr' _ from wide_any x s wr' hxb.1 (by omega) hv0 (by omega)).mono ?_
           rintro e w2 ⟨qv, rfl, hoq, hb2⟩
           have hop2 := own_same hopd hb2
           have how2 := own_same howd hb2
           have hB2 := hBd.trans (hb2.mono hBd.size)
           have hql := vform_len x s (by omega)
           obtain ⟨ql, hqe⟩ : ∃ ql, ql = vform x s := ⟨_, rfl⟩
           rw [← hqe] at hoq hql
           have rq := rd_of_own hoq
           obtain ⟨Aq, capq, rfl⟩ := rq.form
           have HQ := Lib.hid rq.rdv
           have HQE := Lib.hid hqe
           have hql8 : ql.length ≤ 8 := by omega
           clear hqe rq hoq hql
           go_wp2_with (first | (at_builtin; refine wpList_append_any _ rfl (.tmp 53) (.tmp 54) 23 rfl w.heap.size 5 i0 _ 1 1 Try.underlying23 hi hz0 hz1 hz2 rfl (by decide) pv (joinB ps).length _ rfl hop2 Aq ql.length capq _ rfl HQ.out.2.2.2.2 (oneInts _ _) (by unfold maxLen; omega) (by omega) hB2.size HQ.out.2.1 ?_; intro v3 w3 hown3 hgrow3 hat3; have how3 := (own_grown how2 hgrow3 (own_ne how2 hop2 (by decide))).alloc (.cells #[.int .u64 x] 22); have hs3 := hgrow3.size; have hs2 := hB2.size) | (at_builtin; refine wpList_append_lies _ rfl (.tmp 56) (.tmp 58) 42 rfl w.heap.size 22 i1 _ 1 8 Try.underlying42 hj hy0 hy1 hy2 rfl (by decide) wv (ps.map (·.1)).length _ rfl how3 ⟨w3.heap.size, 0, none⟩ 1 1 [.int .u64 x] rfl rfl (World.news_of_block (cs := #[.int .u64 x]) (t := 22) (fr := (0, 0)) (heap_alloc_new w3 _)) (by simp [Value.oneCell']) (by decide) (by simp only [List.length_map]; unfold maxLen; omega) (by simp only [List.length_map]; omega) (by simp; omega) (w3.heap.size + 1) (by simp) ?_; intro g4 c4 w4 hown4 hgrow4 hat4 hlt4))
           have hop4 := own_grown (hown3.alloc (.cells #[.int .u64 x] 22)) hgrow4 (own_ne (hown3.alloc (.cells #[.int .u64 x] 22)) how3 (by decide))
           have hB3 := (hB2.grown hgrow3 hs2 (fun b hb => (hop2.lt b hb).1)).alloc (by omega) (.cells #[.int .u64 x] 22)
           have hB4 := hB3.grown hgrow4 (by simp; omega) (fun b hb => (how3.lt b hb).1)
           rw [← List.map_append, HQE.out, ← joinB_snoc] at hop4
           go_roundw
           case rel => exact ⟨_, _, k + 1, ps ++ [(x, s)], rfl, rfl, by omega, by simp; omega, by simp; omega, HF.out.snoc hxb.1 (by omega) hv0 (by omega), by go_num, by rw [joinB_snoc, List.length_append, ← joinB_snoc]; exact hop4, by simpa using hown4, hB4⟩
           case measure => simp [intOf]; omega
    · have hjl := joinB_len ps hf
      have hkf := joinB_ok ps hf
      have HF := Lib.hid hf
      clear hf
      obtain ⟨Aw, capw, rfl⟩ := (rd_of_own (k := .u64) (l := ps.map (·.1)) how).form
      have HW := Lib.hid (rd_of_own (k := .u64) (l := ps.map (·.1)) how)
      obtain ⟨wo, rfl⟩ : ∃ wo : World, wo = wr := ⟨_, rfl⟩
      obtain ⟨wl, hwl⟩ : ∃ wl, wl = ps.map (·.1) := ⟨_, rfl⟩
      have hwn : wl.length = ps.length := by rw [hwl]; simp
      have hop' : wo.ownsRow w.heap.size 5 1 pv (joinB (ps.drop 0)).length ((joinB (ps.drop 0)).map (Value.int .u8)) := hop
      rw [← hwl] at HW ⊢
      have HWL := Lib.hid hwl
      have HWN := Lib.hid hwn
      clear hwl hop how hwn
      have rp' := rd_of_own hop'
      clear hop'
      go_wp2_with fail
      go_loopw [5, 63] (fun pv i w2 => ∃ j : Nat, j ≤ wl.length ∧ i = .int .i64 j ∧ Rd w2 .u8 pv (joinB (ps.drop j)) ∧ Below wo.heap.size wo w2 ∧ Below w.heap.size w w2) (fun _ i _ => wl.length - (intOf i).toNat)
      case atStart => exact ⟨0, Nat.zero_le _, rfl, rp', Below.refl _ _, hB⟩
      case round =>
        obtain ⟨j, hj, rfl, rp, hbb, hB2⟩ := hrel
        have hwn := HWN.out
        have hwl20 : wl.length ≤ 20 := by omega
        have kd := joinB_ok _ (HF.out.drop j)
        have ld := joinB_len _ (HF.out.drop j)
        rw [List.length_drop] at ld
        by_cases hlt2 : j < wl.length
        · have HT : Hid (vtake (joinB (ps.drop j)) = some (wl.getD j 0, joinB (ps.drop (j + 1)))) := by
            have h := joinB_take HF.out (j := j) (by omega)
            rw [HWL.out]; exact h
          obtain ⟨bw, offw, rfl, hbw, cw⟩ := (HW.out.below hbb).at_ j hlt2
          have hxb : 0 ≤ wl.getD j 0 := (vtake_some kd HT.out).1
          obtain ⟨x, hx⟩ : ∃ x, x = wl.getD j 0 := ⟨_, rfl⟩
          rw [← hx] at cw HT hxb
          obtain ⟨Ap, capp, rfl⟩ := rp.form
          have HR := Lib.hid rp
          clear hx hwn rp
          have hl8 : (joinB (ps.drop j)).length ≤ 1099511627776 := by omega
          clear ld
          go_wp2_with fail
          refine (take_some _ (joinB (ps.drop j)) x (joinB (ps.drop (j + 1))) _ HR.out kd hl8 HT.out).mono ?_
          rintro e w3 ⟨v', rfl, ho, hb3⟩
          go_wp2_with fail
          go_roundw
          case rel => exact ⟨j + 1, by omega, by go_num, rd_of_own ho, hbb.trans (hb3.mono hbb.size), hB2.trans (hb3.mono hB2.size)⟩
          case measure => simp [intOf]; omega
        · have hd : ps.drop j = [] := List.drop_of_length_le (by omega)
          rw [hd] at rp
          obtain ⟨Ap, capp, rfl⟩ := rp.form
          clear hwn kd ld hd
          go_wp2_with fail
          go_ret
          exact ⟨by simp [joinB], hB2⟩

open Go.ChangeShapes Go.WideShapes Go.ChangeAt in
theorem nums_of {H : Type} {enc : TypeId × Value → H} {W : World} {A : Option Addr} {len cap : Nat} {d1 : DataW H} {p1 : List MemPlace}
    (h : DataW.Trod enc Try.prog W 0 (fun _ => true) true 42 (.slice A len cap) d1 p1) : ∃ l, Rd W .u64 (.slice A len cap) l ∧ ∀ x ∈ l, 0 ≤ x ∧ x ≤ 18446744073709551615 := by
  obtain ⟨fuel, hf⟩ := h
  rcases open_ints Try.underlying42 Try.underlying22 (by kernel_rfl) hf with ⟨hcs, _⟩ | ⟨x, l, c, zs, hcs, _, hl, hm, hz, _, hcell, hwz⟩
  · simp [Value.cells] at hcs
    obtain ⟨rfl, rfl, rfl⟩ := hcs
    exact ⟨[], Rd.nil _ _, fun x hx => by simp at hx⟩
  · simp [Value.cells] at hcs
    obtain ⟨rfl, rfl, rfl⟩ := hcs
    have hz' : zs.length = cap := by simpa using hz
    have hlen : (zs.take len).length = len := by simp; omega
    refine ⟨zs.take len, ⟨some x, cap, by rw [hlen], by omega, hm, fun e => (by cases e), fun i hi => ?_⟩, fun n hn => bounds_u64 (hwz n (List.mem_of_mem_take hn))⟩
    rw [hlen] at hi
    have hc := hcell i (by omega)
    have hsp : x.spot = none := by
      have h0 := World.cell?_spot (hcell 0 (by omega))
      simpa [Addr.add] using h0
    obtain ⟨b, o, s⟩ := x
    simp only at hsp
    subst hsp
    have hlt := World.block_lt_of_cell? W _ hc
    rw [addr_add] at hc hlt
    refine ⟨b, o, rfl, hlt, fun j hj => ?_⟩
    obtain rfl : j = 0 := by omega
    rw [show o + (i * 1 + 0) = o + i by omega, hc]
    simp [List.getD, List.getElem?_take, hi]

open Go.ChangeShapes Go.WideShapes Go.ChangeAt
set_option maxRecDepth 100000 in
theorem joins_lifted (os : Os) (started : os.Started) (H : Type) (enc : TypeId × Value → H) :
    ReturnsInHanded {} Try.checked os 5 .any (Rows.vintJoinsSpec.pre6 enc Try.prog Try.f5 Rows.vintJoinsRow.domain false) (Rows.vintJoinsSpec.post enc Try.prog Try.f5 false true false false) := by
  refine returnsInHanded_of_change (C := Try.checked) own started (by kernel_rfl) Try.func5
    (ChangeSpec.witness6 (enc := enc) (C := Try.checked) false ⟨#[], #[.slice none 0 0, .slice none 0 0], []⟩ 8 (by kernel_rfl) (by kernel_rfl) (by kernel_rfl) (by kernel_rfl)) ?_
  intro W base args ds gs before hval0 hW hcnd _
  have hval : ∀ (j : Nat) t v, Try.f5.params[j]? = some t → args[j]? = some v → Value.okWide Try.prog W .any base t v := hval0
  have hW' := hW
  obtain ⟨p, q, hA0, hV, rfl, hfz, hnd⟩ := hW
  have hA : DataW.TrodAll enc Try.prog W 0 (fun _ => true) true Try.f5.params.toList args.toList ds p := hA0
  rw [Try.params5] at hA hval
  obtain ⟨v0, vs0, d0, ds0, p0, q0, hargs, rfl, rfl, h0, r0⟩ := trodAll_cons hA
  obtain ⟨v1, vs1, d1, ds1, p1, q1, rfl, rfl, rfl, h1, r1⟩ := trodAll_cons r0
  obtain ⟨rfl, rfl, rfl⟩ := trodAll_nil r1
  obtain rfl : args = #[v0, v1] := by cases args; simp_all
  obtain ⟨rfl, rfl⟩ := trodVars_none hV
  obtain ⟨A0, len0, cap0, rfl⟩ := okWide_slice Try.underlying42 (hval 0 42 v0 rfl rfl)
  have k0 := h0
  have lt0 : ∀ x ∈ p0, x.block < W.heap.size := by obtain ⟨m, hm⟩ := k0; exact DataW.trod_lt m _ _ _ hm
  obtain ⟨l0, hR0, hK0⟩ := nums_of h0
  obtain ⟨A1, len1, cap1, rfl⟩ := okWide_slice Try.underlying23 (hval 1 23 v1 rfl rfl)
  have k1 := h1
  have lt1 : ∀ x ∈ p1, x.block < W.heap.size := by obtain ⟨m, hm⟩ := k1; exact DataW.trod_lt m _ _ _ hm
  obtain ⟨l1, hR1, hK1⟩ := bytes_of h1
  clear hA0 hval0
  refine (joins_walk _ _ l0 l1 W hR0 hR1 hK0 hK1).mono fun e W' ⟨he, bel⟩ => ?_
  subst he
  exact ⟨_, rfl, _, _, _, [], _, [], hW', trodAll_mk1 (shut_bool Try.underlying4 _), (trodAll_cons_mk (Below.trod laidOut (by kernel_rfl) (of_decide_eq_true (by kernel_rfl)) k0 bel lt0) (trodAll_cons_mk (Below.trod laidOut (by kernel_rfl) (of_decide_eq_true (by kernel_rfl)) k1 bel lt1) trodAll_mk0)), rfl, bel.frame _, fun h => by cases h⟩

theorem joins_holds : Rows.VintJoinsSaid :=
  OpenClaim.holds_of_wide 5 Try.f5 rfl rfl rfl rfl rfl rfl rfl ⟨rfl, rfl, rfl, rfl, rfl⟩ rfl rfl rfl rfl rfl (by kernel_rfl) Try.func5 (by kernel_rfl)
    (of_decide_eq_true (by kernel_rfl)) (by unfold Func.isWrapper; first | (rw [if_pos (by decide +kernel)]; kernel_rfl) | (rw [if_neg (by decide +kernel)]; exact ⟨rfl, rfl⟩))
    (fun os started H enc _ => joins_lifted os started H enc)
#print axioms joins_holds

end Go.Proofs.Ytliagckgollalaa
