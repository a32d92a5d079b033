/-
  What Take of a quilt does. No condition.
-/
import Derived.Test.YtpkondemkpogoaaQtakep
namespace Go.Proofs.Ytpkondemkpogoaa
open Go.RowKit
set_option linter.unusedVariables false
set_option linter.unusedSimpArgs false


theorem TK.read {S : Nat → Prop} {B : Nat} {w0 w : World} {g : Nat} {V : Value} {dc : List PV} {rd hi la : Int} {kn : Bool} {v : Value} {O : List Int} (h : TK S B w0 w g V dc rd hi la kn v O) (r : Int) :
    TK S B w0 (w.setCell ⟨g, 1, none⟩ (.int .u64 r)) g V dc r hi la kn v O :=
  ⟨h.lo, h.gl, h.me.set_ 1 _, h.own.far (p := ⟨g, 1, none⟩) (h.own.blk_ne h.me (by decide)) _, h.rb, h.ps.set h.me (by decide) 1 _, h.sl, own_far h.out (own_blk_ne h.out h.me (by decide)) _, h.on.grown (grown_set (grown_refl w _) 1 _) (fun c e => .inl (by simpa using e.symm))⟩
theorem TK.qs {S S' : Nat → Prop} {B : Nat} {w0 w : World} {g : Nat} {V : Value} {dc : List PV} {rd hi la : Int} {kn : Bool} {v : Value} {O : List Int} (h : TK S B w0 w g V dc rd hi la kn v O) (hS : ∀ b, S b → S' b) : QS S' B w g V.ownBlock dc rd hi la kn :=
  ⟨h.lo, ⟨V, rfl, h.me, h.own⟩, h.ps.mono hS⟩
theorem gen_world {P : World → Prop} {w : World} (I : World → Prop) (h : I w) (k : ∀ w', I w' → P w') : P w := k w h
abbrev tkN (m rd : Int) (L : List Pat) : Nat := min (rdy rd L) (max m 0).toNat
set_option maxHeartbeats 8000000 in
set_option maxRecDepth 100000 in
theorem take_any (S : Nat → Prop) (B g : Nat) (rb : Option Nat) (d : List PV) (rd hi la : Int) (kn : Bool) (m : Int) (w : World) (hq : QS S B w g rb d rd hi la kn) (hk : Qk rd (lp d)) (hsm : hld (lp d) ≤ 1000000) (hB : B ≤ w.heap.size) (hrd : rd ≤ QM) (hm : -9223372036854775808 ≤ m ∧ m ≤ 9223372036854775807) :
    Calls Try.prog 13 #[.pointer (some ⟨g, 0, none⟩), .int .i64 m] w fun e w' => ∃ v d', e = .returned (.tuple #[v, .bool (kn && decide (rd + tkN m rd (lp d) = la))]) ∧ QS S B w' g rb d' (rd + tkN m rd (lp d)) hi la kn ∧
      lp d' = tak (tkN m rd (lp d)) (lp d) ∧ w'.ownsRow w.heap.size 5 1 v (tkN m rd (lp d)) ((got (tkN m rd (lp d)) (lp d)).map (Value.int .u8)) ∧ Onl w w' g rb := by
  obtain ⟨i0, hi0, hz0, hz1, hz2⟩ := info_parts infoB
  have hrdy := ready_any S B g rb d rd hi la kn w hq hk
  have hgl := hq.lt
  obtain ⟨V, rfl, hme, hown⟩ := hq.me
  have hps := hq.ps.low
  have hlo := hk.lo
  have hb62 := hld_bd hk (lp d).length
  rw [List.take_length] at hb62
  have hrh := rdy_hld rd (lp d)
  obtain ⟨k, hkk⟩ : ∃ k, k = tkN m rd (lp d) := ⟨_, rfl⟩
  obtain ⟨R, hR⟩ : ∃ R, R = rdy rd (lp d) := ⟨_, rfl⟩
  obtain ⟨mk, hmk⟩ : ∃ mk : Nat, (mk : Int) = max m 0 := ⟨(max m 0).toNat, by omega⟩
  have hkR : k = min R mk := by rw [hkk, hR]; unfold tkN; omega
  rw [← hkk]
  rw [← hR] at hrdy hrh
  have hmx : (if m < 0 then (0 : Int) else m) = (mk : Int) := by split <;> omega
  have hmn : (if (mk : Int) < (R : Int) then (mk : Int) else (R : Int)) = (k : Int) := by split <;> omega
  have hmn2 : (if mk < R then (mk : Int) else (R : Int)) = (k : Int) := by rw [← hmn]; simp only [Int.ofNat_lt]
  have hmx3 : max m 0 = (mk : Int) := hmk.symm
  have hmn3 : min (R : Int) (mk : Int) = (k : Int) := by omega
  have hmn4 : min (R : Int) (max m 0) = (k : Int) := by omega
  have hk6 : k ≤ 1000000 := by omega
  have HP0 := Lib.hid (Tp.start hk (k := k) (by rw [← hR]; omega))
  have hlo' := hq.lo
  have hQ := Lib.hid hkk
  clear hkk hR hrh hb62 hmk hq hk hkR
  go_enter Try.func13, Try.ntmps13
  go_wp2_with fail
  (with_reducible refine hrdy.mono ?_)
  rintro e w1 ⟨rfl, hb1⟩
  have hT : TK (fun b => S b ∧ b < w.heap.size) B w w1 g V d rd hi la kn (.slice none 0 0) [] := ⟨hlo', hgl, hme.same hb1, hown.below hb1, fun b hb => (hown.lt b hb).2, hps.below hb1, fun b h => h.2, World.ownsRow_nil _ _ _ _, (Onl.refl w g V.ownBlock).below hb1⟩
  clear hme hown hps hrdy hb1
  go_wp2_with fail
  clear hmx hmn hmn2 hmx3 hmn3 hmn4
  go_loopw [7] (fun s7 wr => ∃ (v V' : Value) (dc : List PV) (O : List Int), v = s7 ∧ TK (fun b => S b ∧ b < w.heap.size) B w wr g V' dc rd hi la kn v O ∧ Hid (V'.ownBlock = V.ownBlock) ∧ Hid (Tp rd (lp d) k O (lp dc))) (fun s7 _ => k - lenV s7)
  case atStart => exact ⟨_, V, d, [], rfl, hT, Lib.hid rfl, HP0⟩
  case round =>
    clear hT
    obtain ⟨v, V', dc, O, rfl, hT, HV, HP⟩ := hrel
    have hout := hT.out
    obtain ⟨Av, cv, rfl, hv1, hv2, _⟩ := sl_of_own hout
    have hv2' : cv ≤ 9223372036854775807 := by unfold maxLen at hv2; omega
    have hle := HP.out.le
    have hws := hT.on.size
    have hgr := hT.me.lt
    by_cases hlt : O.length < k
    · obtain ⟨x, T, hM, he, hne, hpe, _, _⟩ := HP.out.some_ hlt
      cases dc with
      | nil => simp [lp] at hM
      | cons px dr =>
        simp only [lp, List.map_cons, List.cons.injEq] at hM
        obtain ⟨rfl, rfl⟩ := hM
        obtain ⟨hxr, hxS⟩ := hT.ps px (by simp)
        obtain ⟨⟨of, l⟩, Ap, np, cp⟩ := px
        simp only [pvv] at hxr hxS he hne hpe
        rcases hxr.shape with ⟨cz, _, h0⟩ | ⟨b2, off2, cp', cs2, hsh, _, _, hcl, hcm⟩
        · exact absurd h0 hne
        simp only [Value.slice.injEq] at hsh
        obtain ⟨rfl, rfl, rfl⟩ := hsh
        obtain ⟨A, cap, rfl, hn1, hn2, _⟩ := hT.own.form
        obtain ⟨b, off, rfl, hbl, d0, d1⟩ := pv_at hT.own 0 (by simp)
        simp only [List.getElem_cons_zero, Nat.zero_mul, Nat.add_zero, pvv] at d0 d1
        have c0 : wr.cell? ⟨g, 0, none⟩ = some (.slice (some ⟨b, off, none⟩) (dr.length + 1) cap) := hT.me.cell 0
        have hlp := len_pos (x := (of, l)) hne
        simp only at hlp
        simp only [List.length_cons] at hn1
        have hcm' : cp ≤ 9223372036854775807 := by unfold maxLen at hcm; omega
        have hn2' : cap ≤ 9223372036854775807 := by unfold maxLen at hn2; omega
        have hof0 : 0 ≤ of := by omega
        simp only [pe, QM] at hpe
        obtain ⟨q, hq⟩ : ∃ q, q = min (k - O.length) l.length := ⟨_, rfl⟩
        have hql : q ≤ l.length := by omega
        have hsrc := (hxr.pre hql).1.rdv.2.2.2.2
        have hrem : (k : Int) - (O.length : Int) = ((k - O.length : Nat) : Int) := by omega
        have HX := Lib.hid hxr
        have HXS := Lib.hid hxS
        have HT := Lib.hid hT
        have HE := Lib.hid he
        obtain ⟨ol, hol⟩ : ∃ ol, ol = O.length := ⟨_, rfl⟩
        obtain ⟨n, hn⟩ : ∃ n, n = l.length := ⟨_, rfl⟩
        rw [← hol] at hq hout hlt hle hv1 hrem ⊢
        rw [← hn] at d1 hq hcl hlp hql hpe
        have HOL := Lib.hid hol
        have HN := Lib.hid hn
        have hw1 : IntKind.i64.wrap ((k : Int) - (ol : Int)) = (k : Int) - ol := Go.IntWalk.i64_in _ (by omega)
        have hmn : (if (k : Int) - (ol : Int) < (n : Int) then (k : Int) - (ol : Int) else (n : Int)) = (q : Int) := by split <;> omega
        have hmn2 : min ((k : Int) - (ol : Int)) (n : Int) = (q : Int) := by omega
        have hmn3 : min (n : Int) ((k : Int) - (ol : Int)) = (q : Int) := by omega
        have hqc : q ≤ cp := by omega
        have hqI : (0 : Int) ≤ (q : Int) := by omega
        have hqcI : (q : Int) ≤ (cp : Int) := by omega
        have hqnI : (q : Int) ≤ (n : Int) := by omega
        have hq1 : 0 < q := by omega
        have hw2 : IntKind.u64.wrap (q : Int) = q := Go.IntWalk.u64_in _ (by omega)
        have hw3 : IntKind.u64.wrap (of + (q : Int)) = of + q := Go.IntWalk.u64_in _ (by omega)
        have hltI : (ol : Int) < (k : Int) := by omega
        have HQ := Lib.hid hq
        clear hol hn hxr hxS hT he hsrc
        have hsrc := ((HX.out.pre (m := q) (by rw [← HN.out]; exact hql)).1.rdv).2.2.2.2
        have hsl : (l.take q).length = q := by rw [List.length_take, ← HN.out]; omega
        rw [HOL.out] at hout
        clear hq hrem
        go_wp2_with (first | (at_builtin; refine wpList_append_any _ rfl _ _ 22 rfl w.heap.size 5 i0 _ 1 1 Try.underlying22 hi0 hz0 hz1 hz2 rfl (by decide) (.slice Av O.length cv) O.length (O.map (Value.int .u8)) (by rw [← HOL.out]; rfl) hout (some ⟨b2, off2, none⟩) q cp ((l.take q).map (Value.int .u8)) rfl hsrc (oneInts _ _) (by unfold maxLen; rw [← HOL.out]; omega) (by rw [← HOL.out]; omega) hws (fun h => by cases h) ?_; intro v2 w2 hown2 hgrow2 hat2) | fail)
        have hT2 := HT.out.app (l := l.take q) (v' := v2) (by rw [hsl]; exact hown2) hgrow2
        rw [← HOL.out] at hown2
        obtain ⟨A2, c2, rfl, _⟩ := sl_of_own hown2
        obtain ⟨b', off', hbo, hbl2, e0, e1⟩ := pv_at hT2.own 0 (by simp)
        simp only [Option.some.injEq, Addr.mk.injEq, and_true] at hbo
        obtain ⟨rfl, rfl⟩ := hbo
        simp only [List.getElem_cons_zero, Nat.zero_mul, Nat.add_zero, pvv] at e0 e1
        rw [← HN.out] at e1
        obtain ⟨cur, hcur⟩ := mid_blk (by simpa using hT2.own)
        have f0 := hcur.frozen off
        have f1 := hcur.frozen (off + 1)
        have k0 : w2.cell? ⟨g, 0, none⟩ = some (.slice (some ⟨b, off, none⟩) (dr.length + 1) cap) := hT2.me.cell 0
        have hX2 := HX.out.kept hgrow2 (fun b hb e => by have h1 := (HXS.out b hb).2; have h2 := (hout.lt b e.symm).1; omega)
        have HT2 := Lib.hid hT2
        have HX2 := Lib.hid hX2
        clear c0 d0 d1 hbl hown2 hgrow2 hat2 hT2 hX2 hcur hsrc hsl hmn hw1 hout HT HX
        rcases Nat.lt_or_ge q cp with hqp | hqp
        · have hqpI : (q : Int) < (cp : Int) := by omega
          have hY := HX2.out.suf (m := q) (by rw [← HN.out]; exact hql)
          rw [← HN.out] at hY
          have HY := Lib.hid hY
          clear hY
          go_region
          all_goals
            refine gen_world (P := fun wz => Exit.then _ _ _ _ wz) (fun wz => TK (fun b => S b ∧ b < w.heap.size) B w wz g (.slice (some ⟨b, off, none⟩) (dr.length + 1) cap) (((of + q, l.drop q), (some ⟨b2, off2 + q, none⟩, n - q, cp - q)) :: dr) rd hi la kn (.slice A2 (ol + q) c2) (O ++ l.take q)) ?_ ?_
            · have hd := HT2.out.head (y := ((of + q, l.drop q), (some ⟨b2, off2 + q, none⟩, n - q, cp - q))) (by simp) HY.out (fun c hc => HXS.out c hc)
              first | exact hd.1.drew | exact hd.2.drew
            clear HT2 HX2 e0 e1 f0 f1 k0
            rintro w3 hT3
            obtain ⟨b', off', hbo, hbl3, e0, e1⟩ := pv_at hT3.own 0 (by simp)
            simp only [Option.some.injEq, Addr.mk.injEq, and_true] at hbo
            obtain ⟨rfl, rfl⟩ := hbo
            simp only [List.getElem_cons_zero, Nat.zero_mul, Nat.add_zero, pvv] at e1
            have k0 : w3.cell? ⟨g, 0, none⟩ = some (.slice (some ⟨b, off, none⟩) (dr.length + 1) cap) := hT3.me.cell 0
            have j0 := hT3.me.frozen 0
            have hgr3 := hT3.me.lt
            have HT3 := Lib.hid hT3
            clear hT3 e0
            by_cases hqn : q = n
            · subst hqn
              have HP2 := Lib.hid (HP.out.whole HE.out (by have := HN.out; have := HQ.out; have := HOL.out; simp only; omega))
              have hO2 : O ++ l.take q = O ++ l := by rw [HN.out, List.take_length]
              have HO2 := Lib.hid hO2
              have hz : ((q - q : Nat) == 0) = true := by simp
              clear hO2
              rcases Nat.lt_or_ge 1 cap with hc1 | hc1
              · have hc1I : (1 : Int) < (cap : Int) := by omega
                have hT4 := (HT3.out.tail (by simp)).1
                rw [HO2.out] at hT4
                have HT4 := Lib.hid hT4
                clear hT4
                go_wp2_with fail
                go_roundw
                case rel => exact ⟨_, _, dr, O ++ l, rfl, HT4.out, HV, HP2⟩
                case measure => simp only [lenV]; omega
              · obtain rfl : cap = 1 := by omega
                have hT4 := (HT3.out.tail (by simp)).2 rfl
                rw [HO2.out] at hT4
                have HT4 := Lib.hid hT4
                clear hT4
                go_wp2_with fail
                go_roundw
                case rel => exact ⟨_, _, dr, O ++ l, rfl, HT4.out, HV, HP2⟩
                case measure => simp only [lenV]; omega
            · have HP2 := Lib.hid (HP.out.part HE.out (j := q) (by have := HN.out; have := HQ.out; have := HOL.out; omega) (by have := HN.out; simp only; omega))
              have hnz : n - q ≠ 0 := by omega
              have hz : ((n - q : Nat) == 0) = false := by simpa using hnz
              have hz2 : (((n - q : Nat) : Int) == 0) = false := by simp; omega
              go_wp2_with fail
              go_roundw
              case rel => exact ⟨_, _, _, O ++ l.take q, rfl, HT3.out, HV, HP2⟩
              case measure => simp only [lenV]; omega
        · obtain rfl : q = cp := by omega
          have hqn : q = n := by omega
          subst hqn
          have hY := HX2.out.emp
          have HP2 := Lib.hid (HP.out.whole HE.out (by have := HN.out; have := HQ.out; have := HOL.out; simp only; omega))
          have hO2 : O ++ l.take q = O ++ l := by rw [HN.out, List.take_length]
          have hdr : l.drop q = [] := by rw [HN.out]; simp
          have HO2 := Lib.hid hO2
          have HDR := Lib.hid hdr
          have HY := Lib.hid hY
          clear hO2 hY hdr
          go_region
          all_goals
            refine gen_world (P := fun wz => Exit.then _ _ _ _ wz) (fun wz => TK (fun b => S b ∧ b < w.heap.size) B w wz g (.slice (some ⟨b, off, none⟩) (dr.length + 1) cap) (((of + q, []), (some ⟨b2, off2, none⟩, 0, 0)) :: dr) rd hi la kn (.slice A2 (ol + q) c2) (O ++ l.take q)) ?_ ?_
            · have hd := HT2.out.head (y := ((of + q, []), (some ⟨b2, off2, none⟩, 0, 0))) (by simp) HY.out (fun c hc => HXS.out c hc)
              first | exact hd.1.drew | exact hd.2.drew
            clear HT2 HX2 e0 e1 f0 f1 k0
            rintro w3 hT3
            obtain ⟨b', off', hbo, hbl3, e0, e1⟩ := pv_at hT3.own 0 (by simp)
            simp only [Option.some.injEq, Addr.mk.injEq, and_true] at hbo
            obtain ⟨rfl, rfl⟩ := hbo
            simp only [List.getElem_cons_zero, Nat.zero_mul, Nat.add_zero, pvv] at e1
            have k0 : w3.cell? ⟨g, 0, none⟩ = some (.slice (some ⟨b, off, none⟩) (dr.length + 1) cap) := hT3.me.cell 0
            have j0 := hT3.me.frozen 0
            have hgr3 := hT3.me.lt
            have HT3 := Lib.hid hT3
            clear hT3 e0
            rcases Nat.lt_or_ge 1 cap with hc1 | hc1
            · have hc1I : (1 : Int) < (cap : Int) := by omega
              have hT4 := (HT3.out.tail (by simp)).1
              rw [HO2.out] at hT4
              have HT4 := Lib.hid hT4
              clear hT4
              go_wp2_with fail
              go_roundw
              case rel => exact ⟨_, _, dr, O ++ l, rfl, HT4.out, HV, HP2⟩
              case measure => simp only [lenV]; omega
            · obtain rfl : cap = 1 := by omega
              have hT4 := (HT3.out.tail (by simp)).2 rfl
              rw [HO2.out] at hT4
              have HT4 := Lib.hid hT4
              clear hT4
              go_wp2_with fail
              go_roundw
              case rel => exact ⟨_, _, dr, O ++ l, rfl, HT4.out, HV, HP2⟩
              case measure => simp only [lenV]; omega
    · obtain ⟨hO, hM, hOk⟩ := HP.out.done hlt
      have hk0 : 0 ≤ rd := hlo
      have hpe : rd + k ≤ 9223372036854775807 := by simp only [QM] at hrd; omega
      have hw1 : IntKind.u64.wrap (k : Int) = k := Go.IntWalk.u64_in _ (by omega)
      have hw2 : IntKind.u64.wrap (rd + (k : Int)) = rd + k := Go.IntWalk.u64_in _ (by omega)
      have c1 : wr.cell? ⟨g, 1, none⟩ = some (.int .u64 rd) := hT.me.cell 1
      have f1 := hT.me.frozen 1
      have hT2 := hT.read (rd + k)
      have hdone := done_any S B g V'.ownBlock dc (rd + k) hi la kn _ (hT2.qs (fun b h => h.1))
      have HD := Lib.hid hdone
      have HT2 := Lib.hid hT2
      have HO := Lib.hid hO
      have HM := Lib.hid hM
      have HOk := Lib.hid hOk
      rw [hOk] at hlt ⊢
      clear hdone hT2 hT hO hM hOk hout hle hv1
      go_wp2_with fail
      (with_reducible refine HD.out.mono ?_)
      rintro e w5 ⟨rfl, hb5⟩
      go_wp2_with fail
      go_ret2
      have hq5 := (HT2.out.qs (S' := S) (fun b h => h.1)).below hb5
      rw [HV.out] at hq5
      have ho5 := own_same HT2.out.out hb5
      rw [HOk.out, HO.out] at ho5
      have hon := HT2.out.on
      rw [HV.out] at hon
      exact ⟨_, dc, rfl, hq5, HM.out, ho5, hon.below hb5⟩

end Go.Proofs.Ytpkondemkpogoaa
