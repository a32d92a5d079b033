/-
  The reference quilt: Put.
-/
import Derived.Test.YtpkondemkpogoaaRref2
namespace Go.Proofs.Ytpkondemkpogoaa
open Go.RowKit
set_option linter.unusedVariables false
set_option linter.unusedSimpArgs false

theorem err0 {q : Q} {off : Int} {l : List Int} {en : Bool} (h : q.err off l en = 0) : off + l.length ≤ QM ∧ (q.kn = true → off + l.length ≤ q.la) ∧ (en = true → q.hi ≤ off + l.length) ∧ (en = true → q.kn = true → off + l.length = q.la) := by
  unfold Q.err chkE at h
  split at h
  · simp at h
  · next h1 =>
    split at h
    · simp at h
    · next h2 =>
      simp only [Bool.or_eq_true, Bool.and_eq_true, decide_eq_true_eq, ne_eq, not_or, not_and] at h2
      refine ⟨by omega, fun hk => ?_, fun he => ?_, fun he hk => ?_⟩
      · have := h2.1 hk
        simp_all
      · have := h2.2 he
        omega
      · have := (h2.1 hk)
        simp_all
theorem grown_trans_same {a b c : World} {m : Nat} (h : a.grownBy b (some m)) (k : b.grownBy c (some m)) : a.grownBy c (some m) :=
  ⟨k.os.trans h.os, k.tape.trans h.tape, k.output.trans h.output, Nat.le_trans h.size k.size, fun i hi hne => (k.block i (Nat.lt_of_lt_of_le hi h.size) hne).trans (h.block i hi hne)⟩
theorem rdt_map {w w' : World} {v : Value} {l : List Int} {mb : Nat} {es : List (Int × Int)} (h : RdT w v l) (hm : RMap w mb es) (hg : w.grownBy w' (some mb)) : RdT w' v l := h.kept hg (fun b e e2 => by
  rcases h.shape with ⟨c, e1, _⟩ | ⟨b2, off, cap, cs, e1, hB, _⟩
  · rw [e1] at e; simp [Value.ownBlock] at e
  · rw [e1] at e
    simp [Value.ownBlock] at e
    subst e
    exact blk_rmap_ne hB hm (by simpa using e2))
theorem QP.map {S : Nat → Prop} {B : Nat} {w w' : World} {g mb : Nat} {q : Q} {es : List (Int × Int)} (h : QP S B w g q) (hm : RMap w mb es) (hg : w.grownBy w' (some mb)) : QP S B w' g q := by
  obtain ⟨rb, d, h1, h2⟩ := h
  have ne : ∀ {b : Nat} {t : TypeId} {cs : Array Value}, Blk w b t cs → b ≠ mb := fun hB => blk_rmap_ne hB hm
  obtain ⟨V, rfl, k2, k3⟩ := h1.me
  refine ⟨V.ownBlock, d, ⟨h1.lo, ⟨V, rfl, k2.grown hg (fun e => ne k2 (by simpa using e)), k3.kept hg ?_⟩, fun x hx => ⟨(h1.ps x hx).1.kept hg (fun b e e2 => ?_), (h1.ps x hx).2⟩⟩, h2⟩
  · rcases k3.2 with ⟨e1, _⟩ | ⟨g', off', cap', cur, e1, _, hg', _⟩
    · left; rw [e1]; rfl
    · right
      rw [e1]
      intro e
      simp [Value.ownBlock] at e
      exact ne hg' e
  · rcases (h1.ps x hx).1.shape with ⟨c, e1, _⟩ | ⟨b2, off, cap, cs, e1, hB, _⟩
    · rw [e1] at e; simp [Value.ownBlock] at e
    · rw [e1] at e
      simp [Value.ownBlock] at e
      subst e
      exact ne hB (by simpa using e2)
theorem QP.blk {S : Nat → Prop} {B : Nat} {w w' : World} {g m : Nat} {q : Q} {t : TypeId} {cs : Array Value} (h : QP S B w g q) (hB : Blk w m t cs) (h5 : t ≠ 5) (h6 : t ≠ 63) (h7 : t ≠ 66) (hg : w.grownBy w' (some m)) : QP S B w' g q := by
  obtain ⟨rb, d, h1, h2⟩ := h
  obtain ⟨V, rfl, k2, k3⟩ := h1.me
  have hgb : m ≠ g := fun e => by subst e; exact Blk.ne_ k2 hB (Ne.symm h6) rfl
  exact ⟨_, d, ⟨h1.lo, ⟨V, rfl, k2.grown hg (by simpa using Ne.symm hgb), k3.kept hg (.inr (k3.blk_ne hB (Ne.symm h7)))⟩, h1.ps.grown hB h5 hg⟩, h2⟩
set_option maxHeartbeats 8000000 in
set_option maxRecDepth 100000 in
theorem rput_ok00 (g mb : Nat) (es : List (Int × Int)) (q : Q) (off : Int) (v : Value) (l : List Int) (w : World) (hX : RX w g mb es q) (hkn : q.kn = false) (hr : RdT w v l) (hby : BytesOk l) (hl : l.length ≤ 1000) (ho : 0 ≤ off) (hsm : es.length ≤ 900000) (hh : 0 ≤ q.hi ∧ q.hi ≤ QM) (he : q.err off l false = 0) :
    Calls Try.prog 24 #[.pointer (some ⟨g, 0, none⟩), .int .u64 off, v, .bool false] w fun e w' => e = .returned (.int .i64 0) ∧ RX w' g mb (addN es off l l.length) (q.put off l false) ∧ ∃ wm, w.grownBy wm (some mb) ∧ wm.grownBy w' (some g) ∧ Blk wm g 59 #[.map (some mb), .int .u64 q.rd, .int .u64 q.hi, .int .u64 q.la, .bool q.kn] := by
  obtain ⟨h1, h2, h3, h4⟩ := err0 he
  have hpe : q.put off l false = ⟨putL (trm q.rd (off, l)) q.L, q.rd, max q.hi (off + l.length), laE false (off + l.length) q.la, q.kn || false⟩ := if_pos he
  obtain ⟨A, c, rfl⟩ := hr.form
  have hXB := hX.1
  rw [hkn] at hXB
  have hM := hX.2
  have hw1 : IntKind.u64.wrap (l.length : Int) = l.length := Go.IntWalk.u64_in _ (by omega)
  obtain ⟨tt, hto⟩ : ∃ tt, tt = off + (l.length : Int) := ⟨_, rfl⟩
  have hw2 : IntKind.u64.wrap (off + (l.length : Int)) = tt := by rw [hto]; exact Go.IntWalk.u64_in _ (by simp only [QM] at h1; omega)
  rw [← hto] at h1 h2 h3 h4 hpe
  have hq1 : ¬ (4611686018427387903 : Int) < off := by simp only [QM] at h1; omega
  have hq2 : ¬ (4611686018427387903 : Int) < tt := by simp only [QM] at h1; omega
  have hq3 : True := trivial
  have hq4 : True := trivial
  have hq5 : True := trivial
  have HTO := Lib.hid hto
  have HPE := Lib.hid hpe
  have HKN := Lib.hid hkn
  have c0 : World.cell? w ⟨g, 0, none⟩ = some (Value.map (some mb)) := hXB.cell 0
  have c1 : World.cell? w ⟨g, 1, none⟩ = some (.int .u64 q.rd) := hXB.cell 1
  have c2 : World.cell? w ⟨g, 2, none⟩ = some (.int .u64 q.hi) := hXB.cell 2
  have c3 : World.cell? w ⟨g, 3, none⟩ = some (.int .u64 q.la) := hXB.cell 3
  have c4 : World.cell? w ⟨g, 4, none⟩ = some (.bool false) := hXB.cell 4
  clear hto hpe hkn h2 h3 h4
  go_enter Try.func24, Try.ntmps24
  go_wp2_with fail
  go_loopw [71] (fun s71 wr => ∃ j : Nat, s71 = .int .i64 j ∧ j ≤ l.length ∧ RMap wr mb (addN es off l j) ∧ Blk wr g 59 #[.map (some mb), .int .u64 q.rd, .int .u64 q.hi, .int .u64 q.la, .bool false] ∧ RdT wr (.slice A l.length c) l ∧ w.grownBy wr (some mb)) (fun s71 _ => l.length - (intOf s71).toNat)
  case atStart => exact ⟨0, rfl, Nat.zero_le _, hM, hXB, hr, grown_refl _ _⟩
  case round =>
    clear hM hXB hr c0 c1 c2 c3 c4 hX
    obtain ⟨j, rfl, hj, hM, hXB, hr, hg⟩ := hrel
    have y0 : World.cell? wr ⟨g, 0, none⟩ = some (Value.map (some mb)) := hXB.cell 0
    have y1 : World.cell? wr ⟨g, 1, none⟩ = some (.int .u64 q.rd) := hXB.cell 1
    have y2 : World.cell? wr ⟨g, 2, none⟩ = some (.int .u64 q.hi) := hXB.cell 2
    have y3 : World.cell? wr ⟨g, 3, none⟩ = some (.int .u64 q.la) := hXB.cell 3
    have y4 : World.cell? wr ⟨g, 4, none⟩ = some (.bool false) := hXB.cell 4
    have hgm := blk_rmap_ne hXB hM
    by_cases hjl : j < l.length
    · have hjI : (j : Int) < (l.length : Int) := by omega
      obtain ⟨b, of2, rfl, _, hc⟩ := hr.1.at_ j hjl
      obtain ⟨x, hx⟩ : ∃ x, x = l.getD j 0 := ⟨_, rfl⟩
      have hxb : 0 ≤ x ∧ x ≤ 255 := by rw [hx]; exact hby.getD j
      rw [← hx] at hc
      have hs1 : addN es off l (j + 1) = one (addN es off l j) (off + j) x := by rw [hx]; rfl
      have hv1 : IntKind.u64.wrap (j : Int) = j := Go.IntWalk.u64_in _ (by omega)
      have hv2 : IntKind.u64.wrap (off + (j : Int)) = off + j := Go.IntWalk.u64_in _ (by have := HTO.out; simp only [QM] at h1; omega)
      have hkb : 0 ≤ off + (j : Int) ∧ off + (j : Int) ≤ 18446744073709551615 := by have := HTO.out; simp only [QM] at h1; omega
      have hlk := hM.look_ok hkb
      have hlen := addN_len es off l j
      have HLE := Lib.hid hlen
      have HS1 := Lib.hid hs1
      clear hx hs1 hlen
      cases hsm2 : (lkp (addN es off l j) (off + (j : Int))).isSome with
      | true =>
        rw [hsm2] at hlk
        have he1 : one (addN es off l j) (off + j) x = addN es off l j := if_pos hsm2
        have HE1 := Lib.hid he1
        have HM := Lib.hid hM
        have HXB := Lib.hid hXB
        have HRr := Lib.hid hr
        clear hsm2 he1 hM hXB hr
        go_wp2_with fail
        go_roundw
        case rel => exact ⟨j + 1, by go_num, by omega, by rw [HS1.out, HE1.out]; exact HM.out, HXB.out, HRr.out, hg⟩
        case measure => simp [intOf]; omega
      | false =>
        rw [hsm2] at hlk
        have hnew : off + (j : Int) ∉ keys (addN es off l j) := fun hm => by rw [lkp_mem.2 hm] at hsm2; cases hsm2
        have he1 : one (addN es off l j) (off + j) x = addN es off l j ++ [(off + (j : Int), x)] := if_neg (by rw [hsm2]; simp)
        have HE1 := Lib.hid he1
        have HM := Lib.hid hM
        have HXB := Lib.hid hXB
        have HRr := Lib.hid hr
        clear hsm2 he1 hM hXB hr
        go_wp2_with (first | (at_mapUpdate; refine wpList_put57 _ rfl _ _ _ rfl mb _ rfl HM.out (by have := HLE.out; omega) (off + (j : Int)) x rfl rfl hkb hxb hnew ?_; intro w7 hM7 hg7) | fail)
        have hXB7 := HXB.out.grown hg7 (by simpa using hgm)
        have hr7 := rdt_map HRr.out HM.out hg7
        have hg8 : w.grownBy w7 (some mb) := grown_trans_same hg hg7
        go_roundw
        case rel => exact ⟨j + 1, by go_num, by omega, by rw [HS1.out, HE1.out]; exact hM7, hXB7, hr7, hg8⟩
        case measure => simp [intOf]; omega
    · have hje : j = l.length := by omega
      subst hje
      have hz2 := hXB.frozen 2
      have hz3 := hXB.frozen 3
      have hz4 := hXB.frozen 4
      have HM := Lib.hid hM
      have HXB := Lib.hid hXB
      clear hM hXB hr
      by_cases hth : q.hi < tt
      · have hmax : max q.hi tt = tt := by omega
        go_wp2_with fail
        go_ret
        exact ⟨rfl, ⟨by rw [HPE.out]; simp only [hmax, HKN.out]; exact by simpa [laE] using HXB.out.set_ 2 (.int .u64 tt), HM.out.grown (grown_set (grown_refl wr (some g)) 2 _) (by simpa using Ne.symm hgm)⟩, wr, hg, grown_set (grown_refl wr (some g)) 2 _, by rw [HKN.out]; exact HXB.out⟩
      · have hmax : max q.hi tt = q.hi := by omega
        go_wp2_with fail
        go_ret
        exact ⟨rfl, ⟨by rw [HPE.out]; simp only [hmax, HKN.out]; exact by simpa [laE] using HXB.out, HM.out.grown (grown_refl wr (some g)) (by simpa using Ne.symm hgm)⟩, wr, hg, grown_refl wr (some g), by rw [HKN.out]; exact HXB.out⟩
set_option maxHeartbeats 8000000 in
set_option maxRecDepth 100000 in
theorem rput_ok01 (g mb : Nat) (es : List (Int × Int)) (q : Q) (off : Int) (v : Value) (l : List Int) (w : World) (hX : RX w g mb es q) (hkn : q.kn = false) (hr : RdT w v l) (hby : BytesOk l) (hl : l.length ≤ 1000) (ho : 0 ≤ off) (hsm : es.length ≤ 900000) (hh : 0 ≤ q.hi ∧ q.hi ≤ QM) (he : q.err off l true = 0) :
    Calls Try.prog 24 #[.pointer (some ⟨g, 0, none⟩), .int .u64 off, v, .bool true] w fun e w' => e = .returned (.int .i64 0) ∧ RX w' g mb (addN es off l l.length) (q.put off l true) ∧ ∃ wm, w.grownBy wm (some mb) ∧ wm.grownBy w' (some g) ∧ Blk wm g 59 #[.map (some mb), .int .u64 q.rd, .int .u64 q.hi, .int .u64 q.la, .bool q.kn] := by
  obtain ⟨h1, h2, h3, h4⟩ := err0 he
  have hpe : q.put off l true = ⟨putL (trm q.rd (off, l)) q.L, q.rd, max q.hi (off + l.length), laE true (off + l.length) q.la, q.kn || true⟩ := if_pos he
  obtain ⟨A, c, rfl⟩ := hr.form
  have hXB := hX.1
  rw [hkn] at hXB
  have hM := hX.2
  have hw1 : IntKind.u64.wrap (l.length : Int) = l.length := Go.IntWalk.u64_in _ (by omega)
  obtain ⟨tt, hto⟩ : ∃ tt, tt = off + (l.length : Int) := ⟨_, rfl⟩
  have hw2 : IntKind.u64.wrap (off + (l.length : Int)) = tt := by rw [hto]; exact Go.IntWalk.u64_in _ (by simp only [QM] at h1; omega)
  rw [← hto] at h1 h2 h3 h4 hpe
  have hq1 : ¬ (4611686018427387903 : Int) < off := by simp only [QM] at h1; omega
  have hq2 : ¬ (4611686018427387903 : Int) < tt := by simp only [QM] at h1; omega
  have hq3 : True := trivial
  have hq4 : ¬ tt < q.hi := by have := h3 rfl; omega
  have hq5 : True := trivial
  have HTO := Lib.hid hto
  have HPE := Lib.hid hpe
  have HKN := Lib.hid hkn
  have c0 : World.cell? w ⟨g, 0, none⟩ = some (Value.map (some mb)) := hXB.cell 0
  have c1 : World.cell? w ⟨g, 1, none⟩ = some (.int .u64 q.rd) := hXB.cell 1
  have c2 : World.cell? w ⟨g, 2, none⟩ = some (.int .u64 q.hi) := hXB.cell 2
  have c3 : World.cell? w ⟨g, 3, none⟩ = some (.int .u64 q.la) := hXB.cell 3
  have c4 : World.cell? w ⟨g, 4, none⟩ = some (.bool false) := hXB.cell 4
  clear hto hpe hkn h2 h3 h4
  go_enter Try.func24, Try.ntmps24
  go_wp2_with fail
  go_loopw [71] (fun s71 wr => ∃ j : Nat, s71 = .int .i64 j ∧ j ≤ l.length ∧ RMap wr mb (addN es off l j) ∧ Blk wr g 59 #[.map (some mb), .int .u64 q.rd, .int .u64 q.hi, .int .u64 q.la, .bool false] ∧ RdT wr (.slice A l.length c) l ∧ w.grownBy wr (some mb)) (fun s71 _ => l.length - (intOf s71).toNat)
  case atStart => exact ⟨0, rfl, Nat.zero_le _, hM, hXB, hr, grown_refl _ _⟩
  case round =>
    clear hM hXB hr c0 c1 c2 c3 c4 hX
    obtain ⟨j, rfl, hj, hM, hXB, hr, hg⟩ := hrel
    have y0 : World.cell? wr ⟨g, 0, none⟩ = some (Value.map (some mb)) := hXB.cell 0
    have y1 : World.cell? wr ⟨g, 1, none⟩ = some (.int .u64 q.rd) := hXB.cell 1
    have y2 : World.cell? wr ⟨g, 2, none⟩ = some (.int .u64 q.hi) := hXB.cell 2
    have y3 : World.cell? wr ⟨g, 3, none⟩ = some (.int .u64 q.la) := hXB.cell 3
    have y4 : World.cell? wr ⟨g, 4, none⟩ = some (.bool false) := hXB.cell 4
    have hgm := blk_rmap_ne hXB hM
    by_cases hjl : j < l.length
    · have hjI : (j : Int) < (l.length : Int) := by omega
      obtain ⟨b, of2, rfl, _, hc⟩ := hr.1.at_ j hjl
      obtain ⟨x, hx⟩ : ∃ x, x = l.getD j 0 := ⟨_, rfl⟩
      have hxb : 0 ≤ x ∧ x ≤ 255 := by rw [hx]; exact hby.getD j
      rw [← hx] at hc
      have hs1 : addN es off l (j + 1) = one (addN es off l j) (off + j) x := by rw [hx]; rfl
      have hv1 : IntKind.u64.wrap (j : Int) = j := Go.IntWalk.u64_in _ (by omega)
      have hv2 : IntKind.u64.wrap (off + (j : Int)) = off + j := Go.IntWalk.u64_in _ (by have := HTO.out; simp only [QM] at h1; omega)
      have hkb : 0 ≤ off + (j : Int) ∧ off + (j : Int) ≤ 18446744073709551615 := by have := HTO.out; simp only [QM] at h1; omega
      have hlk := hM.look_ok hkb
      have hlen := addN_len es off l j
      have HLE := Lib.hid hlen
      have HS1 := Lib.hid hs1
      clear hx hs1 hlen
      cases hsm2 : (lkp (addN es off l j) (off + (j : Int))).isSome with
      | true =>
        rw [hsm2] at hlk
        have he1 : one (addN es off l j) (off + j) x = addN es off l j := if_pos hsm2
        have HE1 := Lib.hid he1
        have HM := Lib.hid hM
        have HXB := Lib.hid hXB
        have HRr := Lib.hid hr
        clear hsm2 he1 hM hXB hr
        go_wp2_with fail
        go_roundw
        case rel => exact ⟨j + 1, by go_num, by omega, by rw [HS1.out, HE1.out]; exact HM.out, HXB.out, HRr.out, hg⟩
        case measure => simp [intOf]; omega
      | false =>
        rw [hsm2] at hlk
        have hnew : off + (j : Int) ∉ keys (addN es off l j) := fun hm => by rw [lkp_mem.2 hm] at hsm2; cases hsm2
        have he1 : one (addN es off l j) (off + j) x = addN es off l j ++ [(off + (j : Int), x)] := if_neg (by rw [hsm2]; simp)
        have HE1 := Lib.hid he1
        have HM := Lib.hid hM
        have HXB := Lib.hid hXB
        have HRr := Lib.hid hr
        clear hsm2 he1 hM hXB hr
        go_wp2_with (first | (at_mapUpdate; refine wpList_put57 _ rfl _ _ _ rfl mb _ rfl HM.out (by have := HLE.out; omega) (off + (j : Int)) x rfl rfl hkb hxb hnew ?_; intro w7 hM7 hg7) | fail)
        have hXB7 := HXB.out.grown hg7 (by simpa using hgm)
        have hr7 := rdt_map HRr.out HM.out hg7
        have hg8 : w.grownBy w7 (some mb) := grown_trans_same hg hg7
        go_roundw
        case rel => exact ⟨j + 1, by go_num, by omega, by rw [HS1.out, HE1.out]; exact hM7, hXB7, hr7, hg8⟩
        case measure => simp [intOf]; omega
    · have hje : j = l.length := by omega
      subst hje
      have hz2 := hXB.frozen 2
      have hz3 := hXB.frozen 3
      have hz4 := hXB.frozen 4
      have HM := Lib.hid hM
      have HXB := Lib.hid hXB
      clear hM hXB hr
      by_cases hth : q.hi < tt
      · have hmax : max q.hi tt = tt := by omega
        go_wp2_with fail
        go_ret
        exact ⟨rfl, ⟨by rw [HPE.out]; simp only [hmax, HKN.out]; exact by simpa [laE] using ((HXB.out.set_ 2 (.int .u64 tt)).set_ 3 (.int .u64 tt)).set_ 4 (.bool true), HM.out.grown (grown_set (grown_set (grown_set (grown_refl wr (some g)) 2 _) 3 _) 4 _) (by simpa using Ne.symm hgm)⟩, wr, hg, grown_set (grown_set (grown_set (grown_refl wr (some g)) 2 _) 3 _) 4 _, by rw [HKN.out]; exact HXB.out⟩
      · have hmax : max q.hi tt = q.hi := by omega
        go_wp2_with fail
        go_ret
        exact ⟨rfl, ⟨by rw [HPE.out]; simp only [hmax, HKN.out]; exact by simpa [laE] using (HXB.out.set_ 3 (.int .u64 tt)).set_ 4 (.bool true), HM.out.grown (grown_set (grown_set (grown_refl wr (some g)) 3 _) 4 _) (by simpa using Ne.symm hgm)⟩, wr, hg, grown_set (grown_set (grown_refl wr (some g)) 3 _) 4 _, by rw [HKN.out]; exact HXB.out⟩
set_option maxHeartbeats 8000000 in
set_option maxRecDepth 100000 in
theorem rput_ok10 (g mb : Nat) (es : List (Int × Int)) (q : Q) (off : Int) (v : Value) (l : List Int) (w : World) (hX : RX w g mb es q) (hkn : q.kn = true) (hr : RdT w v l) (hby : BytesOk l) (hl : l.length ≤ 1000) (ho : 0 ≤ off) (hsm : es.length ≤ 900000) (hh : 0 ≤ q.hi ∧ q.hi ≤ QM) (he : q.err off l false = 0) :
    Calls Try.prog 24 #[.pointer (some ⟨g, 0, none⟩), .int .u64 off, v, .bool false] w fun e w' => e = .returned (.int .i64 0) ∧ RX w' g mb (addN es off l l.length) (q.put off l false) ∧ ∃ wm, w.grownBy wm (some mb) ∧ wm.grownBy w' (some g) ∧ Blk wm g 59 #[.map (some mb), .int .u64 q.rd, .int .u64 q.hi, .int .u64 q.la, .bool q.kn] := by
  obtain ⟨h1, h2, h3, h4⟩ := err0 he
  have hpe : q.put off l false = ⟨putL (trm q.rd (off, l)) q.L, q.rd, max q.hi (off + l.length), laE false (off + l.length) q.la, q.kn || false⟩ := if_pos he
  obtain ⟨A, c, rfl⟩ := hr.form
  have hXB := hX.1
  rw [hkn] at hXB
  have hM := hX.2
  have hw1 : IntKind.u64.wrap (l.length : Int) = l.length := Go.IntWalk.u64_in _ (by omega)
  obtain ⟨tt, hto⟩ : ∃ tt, tt = off + (l.length : Int) := ⟨_, rfl⟩
  have hw2 : IntKind.u64.wrap (off + (l.length : Int)) = tt := by rw [hto]; exact Go.IntWalk.u64_in _ (by simp only [QM] at h1; omega)
  rw [← hto] at h1 h2 h3 h4 hpe
  have hq1 : ¬ (4611686018427387903 : Int) < off := by simp only [QM] at h1; omega
  have hq2 : ¬ (4611686018427387903 : Int) < tt := by simp only [QM] at h1; omega
  have hq3 : ¬ q.la < tt := by have := h2 hkn; omega
  have hq4 : True := trivial
  have hq5 : True := trivial
  have HTO := Lib.hid hto
  have HPE := Lib.hid hpe
  have HKN := Lib.hid hkn
  have c0 : World.cell? w ⟨g, 0, none⟩ = some (Value.map (some mb)) := hXB.cell 0
  have c1 : World.cell? w ⟨g, 1, none⟩ = some (.int .u64 q.rd) := hXB.cell 1
  have c2 : World.cell? w ⟨g, 2, none⟩ = some (.int .u64 q.hi) := hXB.cell 2
  have c3 : World.cell? w ⟨g, 3, none⟩ = some (.int .u64 q.la) := hXB.cell 3
  have c4 : World.cell? w ⟨g, 4, none⟩ = some (.bool true) := hXB.cell 4
  clear hto hpe hkn h2 h3 h4
  go_enter Try.func24, Try.ntmps24
  go_wp2_with fail
  go_loopw [71] (fun s71 wr => ∃ j : Nat, s71 = .int .i64 j ∧ j ≤ l.length ∧ RMap wr mb (addN es off l j) ∧ Blk wr g 59 #[.map (some mb), .int .u64 q.rd, .int .u64 q.hi, .int .u64 q.la, .bool true] ∧ RdT wr (.slice A l.length c) l ∧ w.grownBy wr (some mb)) (fun s71 _ => l.length - (intOf s71).toNat)
  case atStart => exact ⟨0, rfl, Nat.zero_le _, hM, hXB, hr, grown_refl _ _⟩
  case round =>
    clear hM hXB hr c0 c1 c2 c3 c4 hX
    obtain ⟨j, rfl, hj, hM, hXB, hr, hg⟩ := hrel
    have y0 : World.cell? wr ⟨g, 0, none⟩ = some (Value.map (some mb)) := hXB.cell 0
    have y1 : World.cell? wr ⟨g, 1, none⟩ = some (.int .u64 q.rd) := hXB.cell 1
    have y2 : World.cell? wr ⟨g, 2, none⟩ = some (.int .u64 q.hi) := hXB.cell 2
    have y3 : World.cell? wr ⟨g, 3, none⟩ = some (.int .u64 q.la) := hXB.cell 3
    have y4 : World.cell? wr ⟨g, 4, none⟩ = some (.bool true) := hXB.cell 4
    have hgm := blk_rmap_ne hXB hM
    by_cases hjl : j < l.length
    · have hjI : (j : Int) < (l.length : Int) := by omega
      obtain ⟨b, of2, rfl, _, hc⟩ := hr.1.at_ j hjl
      obtain ⟨x, hx⟩ : ∃ x, x = l.getD j 0 := ⟨_, rfl⟩
      have hxb : 0 ≤ x ∧ x ≤ 255 := by rw [hx]; exact hby.getD j
      rw [← hx] at hc
      have hs1 : addN es off l (j + 1) = one (addN es off l j) (off + j) x := by rw [hx]; rfl
      have hv1 : IntKind.u64.wrap (j : Int) = j := Go.IntWalk.u64_in _ (by omega)
      have hv2 : IntKind.u64.wrap (off + (j : Int)) = off + j := Go.IntWalk.u64_in _ (by have := HTO.out; simp only [QM] at h1; omega)
      have hkb : 0 ≤ off + (j : Int) ∧ off + (j : Int) ≤ 18446744073709551615 := by have := HTO.out; simp only [QM] at h1; omega
      have hlk := hM.look_ok hkb
      have hlen := addN_len es off l j
      have HLE := Lib.hid hlen
      have HS1 := Lib.hid hs1
      clear hx hs1 hlen
      cases hsm2 : (lkp (addN es off l j) (off + (j : Int))).isSome with
      | true =>
        rw [hsm2] at hlk
        have he1 : one (addN es off l j) (off + j) x = addN es off l j := if_pos hsm2
        have HE1 := Lib.hid he1
        have HM := Lib.hid hM
        have HXB := Lib.hid hXB
        have HRr := Lib.hid hr
        clear hsm2 he1 hM hXB hr
        go_wp2_with fail
        go_roundw
        case rel => exact ⟨j + 1, by go_num, by omega, by rw [HS1.out, HE1.out]; exact HM.out, HXB.out, HRr.out, hg⟩
        case measure => simp [intOf]; omega
      | false =>
        rw [hsm2] at hlk
        have hnew : off + (j : Int) ∉ keys (addN es off l j) := fun hm => by rw [lkp_mem.2 hm] at hsm2; cases hsm2
        have he1 : one (addN es off l j) (off + j) x = addN es off l j ++ [(off + (j : Int), x)] := if_neg (by rw [hsm2]; simp)
        have HE1 := Lib.hid he1
        have HM := Lib.hid hM
        have HXB := Lib.hid hXB
        have HRr := Lib.hid hr
        clear hsm2 he1 hM hXB hr
        go_wp2_with (first | (at_mapUpdate; refine wpList_put57 _ rfl _ _ _ rfl mb _ rfl HM.out (by have := HLE.out; omega) (off + (j : Int)) x rfl rfl hkb hxb hnew ?_; intro w7 hM7 hg7) | fail)
        have hXB7 := HXB.out.grown hg7 (by simpa using hgm)
        have hr7 := rdt_map HRr.out HM.out hg7
        have hg8 : w.grownBy w7 (some mb) := grown_trans_same hg hg7
        go_roundw
        case rel => exact ⟨j + 1, by go_num, by omega, by rw [HS1.out, HE1.out]; exact hM7, hXB7, hr7, hg8⟩
        case measure => simp [intOf]; omega
    · have hje : j = l.length := by omega
      subst hje
      have hz2 := hXB.frozen 2
      have hz3 := hXB.frozen 3
      have hz4 := hXB.frozen 4
      have HM := Lib.hid hM
      have HXB := Lib.hid hXB
      clear hM hXB hr
      by_cases hth : q.hi < tt
      · have hmax : max q.hi tt = tt := by omega
        go_wp2_with fail
        go_ret
        exact ⟨rfl, ⟨by rw [HPE.out]; simp only [hmax, HKN.out]; exact by simpa [laE] using HXB.out.set_ 2 (.int .u64 tt), HM.out.grown (grown_set (grown_refl wr (some g)) 2 _) (by simpa using Ne.symm hgm)⟩, wr, hg, grown_set (grown_refl wr (some g)) 2 _, by rw [HKN.out]; exact HXB.out⟩
      · have hmax : max q.hi tt = q.hi := by omega
        go_wp2_with fail
        go_ret
        exact ⟨rfl, ⟨by rw [HPE.out]; simp only [hmax, HKN.out]; exact by simpa [laE] using HXB.out, HM.out.grown (grown_refl wr (some g)) (by simpa using Ne.symm hgm)⟩, wr, hg, grown_refl wr (some g), by rw [HKN.out]; exact HXB.out⟩
set_option maxHeartbeats 8000000 in
set_option maxRecDepth 100000 in
theorem rput_ok11 (g mb : Nat) (es : List (Int × Int)) (q : Q) (off : Int) (v : Value) (l : List Int) (w : World) (hX : RX w g mb es q) (hkn : q.kn = true) (hr : RdT w v l) (hby : BytesOk l) (hl : l.length ≤ 1000) (ho : 0 ≤ off) (hsm : es.length ≤ 900000) (hh : 0 ≤ q.hi ∧ q.hi ≤ QM) (he : q.err off l true = 0) :
    Calls Try.prog 24 #[.pointer (some ⟨g, 0, none⟩), .int .u64 off, v, .bool true] w fun e w' => e = .returned (.int .i64 0) ∧ RX w' g mb (addN es off l l.length) (q.put off l true) ∧ ∃ wm, w.grownBy wm (some mb) ∧ wm.grownBy w' (some g) ∧ Blk wm g 59 #[.map (some mb), .int .u64 q.rd, .int .u64 q.hi, .int .u64 q.la, .bool q.kn] := by
  obtain ⟨h1, h2, h3, h4⟩ := err0 he
  have hpe : q.put off l true = ⟨putL (trm q.rd (off, l)) q.L, q.rd, max q.hi (off + l.length), laE true (off + l.length) q.la, q.kn || true⟩ := if_pos he
  obtain ⟨A, c, rfl⟩ := hr.form
  have hXB := hX.1
  rw [hkn] at hXB
  have hM := hX.2
  have hw1 : IntKind.u64.wrap (l.length : Int) = l.length := Go.IntWalk.u64_in _ (by omega)
  obtain ⟨tt, hto⟩ : ∃ tt, tt = off + (l.length : Int) := ⟨_, rfl⟩
  have hw2 : IntKind.u64.wrap (off + (l.length : Int)) = tt := by rw [hto]; exact Go.IntWalk.u64_in _ (by simp only [QM] at h1; omega)
  rw [← hto] at h1 h2 h3 h4 hpe
  have hq1 : ¬ (4611686018427387903 : Int) < off := by simp only [QM] at h1; omega
  have hq2 : ¬ (4611686018427387903 : Int) < tt := by simp only [QM] at h1; omega
  have hq3 : ¬ q.la < tt := by have := h2 hkn; omega
  have hq4 : ¬ tt < q.hi := by have := h3 rfl; omega
  have hq5 : tt = q.la := h4 rfl hkn
  have HTO := Lib.hid hto
  have HPE := Lib.hid hpe
  have HKN := Lib.hid hkn
  have c0 : World.cell? w ⟨g, 0, none⟩ = some (Value.map (some mb)) := hXB.cell 0
  have c1 : World.cell? w ⟨g, 1, none⟩ = some (.int .u64 q.rd) := hXB.cell 1
  have c2 : World.cell? w ⟨g, 2, none⟩ = some (.int .u64 q.hi) := hXB.cell 2
  have c3 : World.cell? w ⟨g, 3, none⟩ = some (.int .u64 q.la) := hXB.cell 3
  have c4 : World.cell? w ⟨g, 4, none⟩ = some (.bool true) := hXB.cell 4
  clear hto hpe hkn h2 h3 h4
  go_enter Try.func24, Try.ntmps24
  go_wp2_with fail
  go_loopw [71] (fun s71 wr => ∃ j : Nat, s71 = .int .i64 j ∧ j ≤ l.length ∧ RMap wr mb (addN es off l j) ∧ Blk wr g 59 #[.map (some mb), .int .u64 q.rd, .int .u64 q.hi, .int .u64 q.la, .bool true] ∧ RdT wr (.slice A l.length c) l ∧ w.grownBy wr (some mb)) (fun s71 _ => l.length - (intOf s71).toNat)
  case atStart => exact ⟨0, rfl, Nat.zero_le _, hM, hXB, hr, grown_refl _ _⟩
  case round =>
    clear hM hXB hr c0 c1 c2 c3 c4 hX
    obtain ⟨j, rfl, hj, hM, hXB, hr, hg⟩ := hrel
    have y0 : World.cell? wr ⟨g, 0, none⟩ = some (Value.map (some mb)) := hXB.cell 0
    have y1 : World.cell? wr ⟨g, 1, none⟩ = some (.int .u64 q.rd) := hXB.cell 1
    have y2 : World.cell? wr ⟨g, 2, none⟩ = some (.int .u64 q.hi) := hXB.cell 2
    have y3 : World.cell? wr ⟨g, 3, none⟩ = some (.int .u64 q.la) := hXB.cell 3
    have y4 : World.cell? wr ⟨g, 4, none⟩ = some (.bool true) := hXB.cell 4
    have hgm := blk_rmap_ne hXB hM
    by_cases hjl : j < l.length
    · have hjI : (j : Int) < (l.length : Int) := by omega
      obtain ⟨b, of2, rfl, _, hc⟩ := hr.1.at_ j hjl
      obtain ⟨x, hx⟩ : ∃ x, x = l.getD j 0 := ⟨_, rfl⟩
      have hxb : 0 ≤ x ∧ x ≤ 255 := by rw [hx]; exact hby.getD j
      rw [← hx] at hc
      have hs1 : addN es off l (j + 1) = one (addN es off l j) (off + j) x := by rw [hx]; rfl
      have hv1 : IntKind.u64.wrap (j : Int) = j := Go.IntWalk.u64_in _ (by omega)
      have hv2 : IntKind.u64.wrap (off + (j : Int)) = off + j := Go.IntWalk.u64_in _ (by have := HTO.out; simp only [QM] at h1; omega)
      have hkb : 0 ≤ off + (j : Int) ∧ off + (j : Int) ≤ 18446744073709551615 := by have := HTO.out; simp only [QM] at h1; omega
      have hlk := hM.look_ok hkb
      have hlen := addN_len es off l j
      have HLE := Lib.hid hlen
      have HS1 := Lib.hid hs1
      clear hx hs1 hlen
      cases hsm2 : (lkp (addN es off l j) (off + (j : Int))).isSome with
      | true =>
        rw [hsm2] at hlk
        have he1 : one (addN es off l j) (off + j) x = addN es off l j := if_pos hsm2
        have HE1 := Lib.hid he1
        have HM := Lib.hid hM
        have HXB := Lib.hid hXB
        have HRr := Lib.hid hr
        clear hsm2 he1 hM hXB hr
        go_wp2_with fail
        go_roundw
        case rel => exact ⟨j + 1, by go_num, by omega, by rw [HS1.out, HE1.out]; exact HM.out, HXB.out, HRr.out, hg⟩
        case measure => simp [intOf]; omega
      | false =>
        rw [hsm2] at hlk
        have hnew : off + (j : Int) ∉ keys (addN es off l j) := fun hm => by rw [lkp_mem.2 hm] at hsm2; cases hsm2
        have he1 : one (addN es off l j) (off + j) x = addN es off l j ++ [(off + (j : Int), x)] := if_neg (by rw [hsm2]; simp)
        have HE1 := Lib.hid he1
        have HM := Lib.hid hM
        have HXB := Lib.hid hXB
        have HRr := Lib.hid hr
        clear hsm2 he1 hM hXB hr
        go_wp2_with (first | (at_mapUpdate; refine wpList_put57 _ rfl _ _ _ rfl mb _ rfl HM.out (by have := HLE.out; omega) (off + (j : Int)) x rfl rfl hkb hxb hnew ?_; intro w7 hM7 hg7) | fail)
        have hXB7 := HXB.out.grown hg7 (by simpa using hgm)
        have hr7 := rdt_map HRr.out HM.out hg7
        have hg8 : w.grownBy w7 (some mb) := grown_trans_same hg hg7
        go_roundw
        case rel => exact ⟨j + 1, by go_num, by omega, by rw [HS1.out, HE1.out]; exact hM7, hXB7, hr7, hg8⟩
        case measure => simp [intOf]; omega
    · have hje : j = l.length := by omega
      subst hje
      have hz2 := hXB.frozen 2
      have hz3 := hXB.frozen 3
      have hz4 := hXB.frozen 4
      have HM := Lib.hid hM
      have HXB := Lib.hid hXB
      clear hM hXB hr
      by_cases hth : q.hi < tt
      · have hmax : max q.hi q.la = q.la := by omega
        go_wp2_with fail
        go_ret
        exact ⟨rfl, ⟨by rw [HPE.out]; simp only [laE, hq5, hmax, HKN.out]; exact by simpa [laE] using ((HXB.out.set_ 2 (.int .u64 q.la)).set_ 3 (.int .u64 q.la)).set_ 4 (.bool true), HM.out.grown (grown_set (grown_set (grown_set (grown_refl wr (some g)) 2 _) 3 _) 4 _) (by simpa using Ne.symm hgm)⟩, wr, hg, grown_set (grown_set (grown_set (grown_refl wr (some g)) 2 _) 3 _) 4 _, by rw [HKN.out]; exact HXB.out⟩
      · have hmax : max q.hi q.la = q.hi := by omega
        go_wp2_with fail
        go_ret
        exact ⟨rfl, ⟨by rw [HPE.out]; simp only [laE, hq5, hmax, HKN.out]; exact by simpa [laE] using (HXB.out.set_ 3 (.int .u64 q.la)).set_ 4 (.bool true), HM.out.grown (grown_set (grown_set (grown_refl wr (some g)) 3 _) 4 _) (by simpa using Ne.symm hgm)⟩, wr, hg, grown_set (grown_set (grown_refl wr (some g)) 3 _) 4 _, by rw [HKN.out]; exact HXB.out⟩

end Go.Proofs.Ytpkondemkpogoaa
