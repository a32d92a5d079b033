/-
  What Put of a new reader does.
-/
import Derived.Test.YthmdbkefbbjfmaaIput
namespace Go.Proofs.Ythmdbkefbbjfmaa
open Go.RowKit
set_option linter.unusedVariables false
set_option linter.unusedSimpArgs false


def lenAt (w : World) (g : Nat) : Nat := match w.cell? ⟨g, 0, none⟩ with | some (.slice _ n _) => n | _ => 0
theorem obs_map {w w' : World} {L : List Obv} (h : ObsOk w L) (hf : ∀ V l, RdT w V l → RdT w' V l) : ObsOk w' L := fun x hx => hf _ _ (h x hx)
theorem rdt_own {w w' : World} {v V : Value} {base n : Nat} {xs : List Value} {l : List Int} (h : RdT w V l) (ho : w.ownsRow base 29 5 v n xs) (hg : w.grownBy w' v.ownBlock) : RdT w' V l := by
  rcases ho.2 with ⟨rfl, _⟩ | ⟨g, cap, cur, rfl, _, hh, _⟩
  · exact h.below (below_of_grown hg (Nat.le_refl _) (fun g e => by simp [Value.ownBlock] at e))
  · exact rdt_grown h (show Blk w g 29 cur from hh) (by decide) hg
theorem grown_two {w0 w w' : World} {a b : Nat} (h : w0.grownBy w (some a)) (k : w.grownBy w' (some b)) (hb : w0.heap.size ≤ b) : w0.grownBy w' (some a) :=
  ⟨k.os.trans h.os, k.tape.trans h.tape, k.output.trans h.output, Nat.le_trans h.size k.size, fun i hi hne => (k.block i (Nat.lt_of_lt_of_le hi h.size) (fun e => by injection e with e; omega)).trans (h.block i hi hne)⟩
theorem obc_one (x : Obv) (w : World) (h : RdT w x.2.2 x.2.1) : ∀ u ∈ obc x, u.oneCell' = true := by
  obtain ⟨A, c, e⟩ := h.form
  intro u hu
  simp [obc] at hu
  rcases hu with rfl | rfl | rfl | rfl | rfl
  · rfl
  · rfl
  · rfl
  · rfl
  · rw [e]; rfl
theorem put_world {w w6 w7 : World} {rg gg cp : Nat} {Vp ov : Value} {h : Bool × Int × Int × Int} {b sm : Bool} {lg lo G O P : Int} {V : Value} {d : List Int} {obs : List Obv} {p : List Int} {cg : Nat} {L : List Int} {E : Int}
    (hb : Blk w6 rg 81 (rdrV Vp h b sm lg lo false)) (hc : CutT w6 cg L E) (ho : w6.ownsRow w.heap.size 29 5 ov obs.length (obcells obs)) (hO : ObsOk w6 obs) (hp : RdT w6 Vp p) (hV : RdT w6 V d) (h6 : w.grownBy w6 (some rg))
    (hown : w7.ownsRow w.heap.size 29 5 (.slice (some ⟨gg, 0, none⟩) (obs.length + 1) cp) (obs.length + 1) (obcells obs ++ obc ((G, O, P), d, V))) (hg : w6.grownBy w7 ov.ownBlock) :
    ∀ wz, wz = ((w7.setCell ⟨rg, 6, none⟩ (.bool true)).setCell ⟨rg, 7, none⟩ (.int .u64 G)).setCell ⟨rg, 8, none⟩ (.int .u64 O) →
    Blk wz rg 81 (rdrV Vp h b true G O false) ∧ CutT wz cg L E ∧ wz.ownsRow w.heap.size 29 5 (.slice (some ⟨gg, 0, none⟩) (obs.length + 1) cp) (obs ++ [((G, O, P), d, V)]).length (obcells (obs ++ [((G, O, P), d, V)])) ∧ ObsOk wz (obs ++ [((G, O, P), d, V)]) ∧ RdT wz Vp p ∧ w.grownBy wz (some rg) := by
  intro wz hwz
  have hne := own_blk_ne ho hb (by decide)
  have hb7 := hb.grown hg (Ne.symm hne)
  have hne7 := own_blk_ne hown hb7 (by decide)
  have hf : ∀ V l, RdT w6 V l → RdT wz V l := fun V l hr => by
    have r7 := rdt_own hr ho hg
    rw [hwz]
    exact rdt_set (rdt_set (rdt_set r7 hb7 (by decide) 6 _) (hb7.set_ 6 _) (by decide) 7 _) ((hb7.set_ 6 _).set_ 7 _) (by decide) 8 _
  obtain ⟨Vc, hC, hR⟩ := hc
  have hrc := hC.ne_ hb (by decide)
  have hnc := own_blk_ne ho hC (by decide)
  have hC7 := hC.grown hg (Ne.symm hnc)
  have e1 : (obs ++ [((G, O, P), d, V)]).length = obs.length + 1 := by simp
  have e2 : obcells (obs ++ [((G, O, P), d, V)]) = obcells obs ++ obc ((G, O, P), d, V) := by simp [obcells]
  have hgw : w.grownBy w7 (some rg) := ⟨hg.os.trans h6.os, hg.tape.trans h6.tape, hg.output.trans h6.output, Nat.le_trans h6.size hg.size, fun i hi hne' => (hg.block i (Nat.lt_of_lt_of_le hi h6.size) (fun e => by have := (ho.lt i e.symm).1; omega)).trans (h6.block i hi hne')⟩
  refine ⟨by rw [hwz]; exact ((hb7.set_ 6 _).set_ 7 _).set_ 8 _, ⟨Vc, by rw [hwz]; exact ((hC7.far hrc _).far hrc _).far hrc _, hf _ _ hR⟩, ?_, ?_, hf _ _ hp, by rw [hwz]; exact grown_set (grown_set (grown_set hgw _ _) _ _) _ _⟩
  · rw [e1, e2, hwz]
    exact own_far (own_far (own_far hown hne7 _) hne7 _) hne7 _
  · intro x hx
    rcases List.mem_append.1 hx with hx | hx
    · exact hf _ _ (hO x hx)
    · simp at hx
      subst hx
      exact hf _ _ hV
theorem iterR_succ {k : Nat} {st s0 : RS} (h : st = iterR k s0) : iterR (k + 1) s0 = stepR st := by rw [h]; rfl
set_option maxHeartbeats 8000000 in
set_option maxRecDepth 100000 in
theorem put_new (rg : Nat) (V : Value) (l : List Int) (fin : Bool) (w : World) (hb : Blk w rg 81 (rdrV (.slice none 0 0) (false, 0, 0, 0) false false 0 0 false)) (hr : Rd w .u8 V l) (hk : BytesOk l) (hl : l.length ≤ 1000000) :
    Calls Try.prog 24 #[.pointer (some ⟨rg, 0, none⟩), V, .bool fin] w fun e w' => ∃ (k : Nat) (obs : List Obv) (ov : Value), (∀ j, j < k → (iterR j (rs0 l)).cont = true) ∧ (iterR k (rs0 l)).cont = false ∧ e = .returned (.tuple #[ov, .int .i64 (putE (iterR k (rs0 l)).e fin)]) ∧
      obOut obs = (iterR k (rs0 l)).out ∧ w'.ownsRow w.heap.size 29 5 ov obs.length (obcells obs) ∧ ObsOk w' obs ∧ w.grownBy w' (some rg) := by
  obtain ⟨i0, hi, hz0, hz1, hz2⟩ := info_parts infoB
  obtain ⟨j0, hj, hy0, hy1, hy2⟩ := info_parts infoO
  obtain ⟨A, cap, rfl⟩ := hr.form
  have HR := Lib.hid hr.rdv
  clear hr
  have c0 : w.cell? ⟨rg, 0, none⟩ = some (.slice none 0 0) := hb.cell 0
  have c9 : w.cell? ⟨rg, 9, none⟩ = some (.bool false) := hb.cell 9
  have f0 := hb.frozen 0
  have hgl := hb.lt
  go_enter Try.func24, Try.ntmps24
  go_wp2_with (first | (at_builtin; refine wpList_append_any _ rfl _ _ 27 rfl w.heap.size 5 i0 _ 1 1 Try.underlying27 hi hz0 hz1 hz2 rfl (by decide) (.slice none 0 0) 0 [] rfl (World.ownsRow_nil _ _ _ _) A l.length cap _ rfl HR.out.2.2.2.2 (oneInts _ _) (by unfold maxLen; omega) (by omega) (Nat.le_refl _) HR.out.2.1 ?_; intro v2 w2 hown2 hgrow2 hat2; have hbb := hb.grown hgrow2 (by simp [Value.ownBlock]); have x0 : w2.cell? ⟨rg, 0, none⟩ = some (.slice none 0 0) := hbb.cell 0; have y0 := hbb.frozen 0; rw [Nat.zero_add, List.nil_append] at hown2; obtain ⟨A2, c2, rfl, _⟩ := sl_of_own hown2) | fail)
  have hrt := rdt_of_own hown2
  have hne2 := own_blk_ne hown2 hbb (by decide)
  have hG2 : w.grownBy w2 (some rg) := grown_below (below_of_grown hgrow2 (Nat.le_refl _) (fun g e => by simp [Value.ownBlock] at e)) _
  have hb3 := hbb.set_ 0 (.slice A2 l.length c2)
  have hrt3 := rdt_set hrt hbb (by decide) 0 (.slice A2 l.length c2)
  have hG3 := grown_set hG2 0 (.slice A2 l.length c2)
  clear c0 c9 f0 x0 y0 hown2 hgrow2 hat2 hrt hbb hG2 hne2 hb
  obtain ⟨s0, hs0⟩ : ∃ s0, s0 = rs0 l := ⟨_, rfl⟩
  have HS0 := Lib.hid hs0
  go_loopw [8, 9] (fun s8 s9 wr => ∃ (k : Nat) (obs : List Obv) (ov Vp : Value) (st : RS), ov = s8 ∧ s9 = .int .i64 st.e ∧ st = iterR k s0 ∧ (∀ j, j < k → (iterR j s0).cont = true) ∧ obOut obs = st.out ∧ wr.ownsRow w.heap.size 29 5 ov obs.length (obcells obs) ∧ ObsOk wr obs ∧
      Blk wr rg 81 (rdrV Vp st.h st.b st.sm st.lg st.lo false) ∧ RdT wr Vp st.p ∧ StOk (st.p, 0) ∧ obs.length + st.p.length ≤ 1000000 ∧ w.grownBy wr (some rg)) (fun _ s9 wr => if intOf s9 = 0 then lenAt wr rg + 1 else 0)
  case atStart => exact ⟨0, [], _, _, rs0 l, rfl, rfl, by rw [hs0]; rfl, fun j hj => absurd hj (by omega), rfl, World.ownsRow_nil _ _ _ _, fun x hx => (by simp at hx), hb3, hrt3, ⟨hk, hl⟩, by simpa [rs0] using hl, hG3⟩
  case round =>
    clear hb3 hrt3 hG3 hs0
    obtain ⟨k, obs, ov, Vp, st, rfl, rfl, hst, hco, hoo, hO, hOO, hb, hp, hsk, hlen, hG⟩ := hrel
    have HCO := Lib.hid hco
    have HOO := Lib.hid hoo
    have HST := Lib.hid hst
    clear hco hoo hst
    obtain ⟨Ap, cp, rfl⟩ := hp.form
    have c0 : wr.cell? ⟨rg, 0, none⟩ = some (.slice Ap st.p.length cp) := hb.cell 0
    have c5 : wr.cell? ⟨rg, 5, none⟩ = some (.bool st.b) := hb.cell 5
    have hgr := hb.lt
    have hws := hG.size
    have hln : lenAt wr rg = st.p.length := by unfold lenAt; rw [c0]
    by_cases he : st.e = 0
    · obtain ⟨b, h, sm, lg, lo, p, out, e⟩ := st
      simp only at he hb hp hsk hlen c0 c5 hln
      subst he
      have hT := iterR_succ HST.out
      cases b
      · by_cases hp0 : p.length = 0
        · obtain rfl : p = [] := List.eq_nil_of_length_eq_zero hp0
          simp only [List.length_nil] at hb hp c0 hln hlen
          have hct : RS.cont ⟨false, h, sm, lg, lo, [], out, 0⟩ = true := by simp [RS.cont]
          have hco1 : ∀ j, j < k + 1 → (iterR j s0).cont = true := fun j hj => by
            by_cases hjk : j < k
            · exact HCO.out j hjk
            · obtain rfl : j = k := by omega
              rw [← HST.out]
              exact hct
          have hsh := step_ok hct hsk
          simp only at hsh
          have hbA := hb.alloc (.cells #[.slice Ap 0 cp, .int .i64 0] 74)
          have hcA : CutT (wr.alloc (.cells #[.slice Ap 0 cp, .int .i64 0] 74)) wr.heap.size [] 0 := ⟨_, Blk.new wr _ _, hp.below ((Below.refl _ _).alloc (Nat.le_refl _) _)⟩
          go_wp2_with fail
          refine (front_any rg wr.heap.size (.slice Ap 0 cp) h false sm lg lo false ([], 0) _ hbA hcA hsk).mono ?_
          rintro e w4 ⟨rfl, hb4, hc4, hk4⟩
          have hCA := Blk.new wr 74 #[.slice Ap 0 cp, .int .i64 0]
          have hf4 : ∀ V l, RdT wr V l → RdT w4 V l := fun V l hv => rdt_keep2 (hv.below ((Below.refl _ _).alloc (Nat.le_refl _) (.cells #[.slice Ap 0 cp, .int .i64 0] 74))) hbA hCA (by decide) (by decide) hk4
          have hO4 := own_keep2 (hO.alloc (.cells #[.slice Ap 0 cp, .int .i64 0] 74)) hk4 (own_blk_ne (hO.alloc _) hbA (by decide)) (own_blk_ne (hO.alloc _) hCA (by decide))
          have hOO4 := obs_map hOO hf4
          have hG4 := keep2_grown (grown_alloc hG (.cells #[.slice Ap 0 cp, .int .i64 0] 74)) hk4 hws
          have hp4 := hf4 _ _ hp
          have hneO := own_blk_ne hO4 hb4 (by decide)
          clear hf4 hk4 hCA hcA hbA hO hOO hb hp hG
          have hS0 : stepR ⟨false, h, sm, lg, lo, [], out, 0⟩ = stepF ⟨false, h, sm, lg, lo, [], out, 0⟩ := by unfold stepR; rw [if_pos rfl]
          unfold stepF at hS0
          simp only at hS0
          obtain ⟨FF, hFF⟩ : ∃ FF, FF = frontS ([], 0) := ⟨_, rfl⟩
          rw [← hFF] at hS0 hb4 hc4 ⊢
          clear hFF
          obtain ⟨hd, L4, E⟩ := FF
          simp only at hS0 hb4 hc4 ⊢
          obtain ⟨V4, hC4, hR4⟩ := hc4
          obtain ⟨A4, c4, rfl⟩ := hR4.form
          have k5 : w4.cell? ⟨rg, 5, none⟩ = some (.bool false) := hb4.cell 5
          have k0 : w4.cell? ⟨rg, 0, none⟩ = some (.slice Ap 0 cp) := hb4.cell 0
          have f5 := hb4.frozen 5
          have f0 := hb4.frozen 0
          have x1 : w4.cell? ⟨wr.heap.size, 1, none⟩ = some (.int .i64 E) := hC4.cell 1
          have x0 : w4.cell? ⟨wr.heap.size, 0, none⟩ = some (.slice A4 L4.length c4) := hC4.cell 0
          have hrc := hC4.ne_ hb4 (by decide)
          have hr4 := hb4.lt
          have hc4 := hC4.lt
          clear c0 c5
          by_cases hE : E = 0
          · subst hE
            exact absurd (hsh.2 (by rw [hS0])) (by simp)
          · have hS : stepR ⟨false, h, sm, lg, lo, [], out, 0⟩ = ⟨false, hd.getD h, sm, lg, lo, [], out, E⟩ := by rw [hS0]; simp [hE]
            rw [hS] at hsh
            have hsn := hsh.1
            simp only at hsn
            clear hsh hS0
            have g0 : (E == 0) = false := by simpa using hE
            have HE := Lib.hid hE
            clear hE
            have hS := Lib.hid hS
            go_wp2_with fail
            have hbn := hb4.set_ 5 (.bool false)
            have hpn := rdt_set hp4 hb4 (by decide) 5 (.bool false)
            have hOn := own_far (p := ⟨rg, 5, none⟩) hO4 hneO (.bool false)
            have hOOn := obs_map hOO4 (fun V l h => rdt_set h hb4 (by decide) 5 (.bool false))
            have hGn := grown_set hG4 5 (.bool false)
            clear k5 k0 f5 f0 x1 x0 hb4 hO4 hOO4 hG4 hp4 hC4 hR4
            replace hS := hS.out
            go_roundw
            case rel => exact ⟨k + 1, obs, _, _, ⟨false, hd.getD h, sm, lg, lo, [], out, E⟩, rfl, rfl, (hT.trans hS).symm, hco1, HOO.out, hOn, hOOn, hbn, hpn, hsn, by simp only; omega, hGn⟩
            case measure => simp [intOf, hln, HE.out]
        · have hct : RS.cont ⟨false, h, sm, lg, lo, p, out, 0⟩ = true := by simp [RS.cont]
          have hco1 : ∀ j, j < k + 1 → (iterR j s0).cont = true := fun j hj => by
            by_cases hjk : j < k
            · exact HCO.out j hjk
            · obtain rfl : j = k := by omega
              rw [← HST.out]
              exact hct
          have hsh := step_ok hct hsk
          simp only at hsh
          have hl1 : 0 < (p.length : Int) := by omega
          have hbA := hb.alloc (.cells #[.slice Ap p.length cp, .int .i64 0] 74)
          have hcA : CutT (wr.alloc (.cells #[.slice Ap p.length cp, .int .i64 0] 74)) wr.heap.size p 0 := ⟨_, Blk.new wr _ _, hp.below ((Below.refl _ _).alloc (Nat.le_refl _) _)⟩
          go_wp2_with fail
          refine (front_any rg wr.heap.size (.slice Ap p.length cp) h false sm lg lo false (p, 0) _ hbA hcA hsk).mono ?_
          rintro e w4 ⟨rfl, hb4, hc4, hk4⟩
          have hCA := Blk.new wr 74 #[.slice Ap p.length cp, .int .i64 0]
          have hf4 : ∀ V l, RdT wr V l → RdT w4 V l := fun V l hv => rdt_keep2 (hv.below ((Below.refl _ _).alloc (Nat.le_refl _) (.cells #[.slice Ap p.length cp, .int .i64 0] 74))) hbA hCA (by decide) (by decide) hk4
          have hO4 := own_keep2 (hO.alloc (.cells #[.slice Ap p.length cp, .int .i64 0] 74)) hk4 (own_blk_ne (hO.alloc _) hbA (by decide)) (own_blk_ne (hO.alloc _) hCA (by decide))
          have hOO4 := obs_map hOO hf4
          have hG4 := keep2_grown (grown_alloc hG (.cells #[.slice Ap p.length cp, .int .i64 0] 74)) hk4 hws
          have hp4 := hf4 _ _ hp
          have hneO := own_blk_ne hO4 hb4 (by decide)
          clear hf4 hk4 hCA hcA hbA hO hOO hb hp hG
          have hS0 : stepR ⟨false, h, sm, lg, lo, p, out, 0⟩ = stepF ⟨false, h, sm, lg, lo, p, out, 0⟩ := by unfold stepR; rw [if_pos rfl]
          unfold stepF at hS0
          simp only at hS0
          obtain ⟨FF, hFF⟩ : ∃ FF, FF = frontS (p, 0) := ⟨_, rfl⟩
          rw [← hFF] at hS0 hb4 hc4 ⊢
          clear hFF
          obtain ⟨hd, L4, E⟩ := FF
          simp only at hS0 hb4 hc4 ⊢
          obtain ⟨V4, hC4, hR4⟩ := hc4
          obtain ⟨A4, c4, rfl⟩ := hR4.form
          have k5 : w4.cell? ⟨rg, 5, none⟩ = some (.bool false) := hb4.cell 5
          have k0 : w4.cell? ⟨rg, 0, none⟩ = some (.slice Ap p.length cp) := hb4.cell 0
          have f5 := hb4.frozen 5
          have f0 := hb4.frozen 0
          have x1 : w4.cell? ⟨wr.heap.size, 1, none⟩ = some (.int .i64 E) := hC4.cell 1
          have x0 : w4.cell? ⟨wr.heap.size, 0, none⟩ = some (.slice A4 L4.length c4) := hC4.cell 0
          have hrc := hC4.ne_ hb4 (by decide)
          have hr4 := hb4.lt
          have hc4 := hC4.lt
          clear c0 c5
          by_cases hE : E = 0
          · subst hE
            have hS : stepR ⟨false, h, sm, lg, lo, p, out, 0⟩ = ⟨true, hd.getD h, sm, lg, lo, L4, out, 0⟩ := by rw [hS0]; simp
            rw [hS] at hsh
            have hsh2 := hsh.2 rfl
            have hsn := hsh.1
            simp only at hsh2 hsn
            clear hsh hS0
            have hS := Lib.hid hS
            go_wp2_with fail
            have hbn := (hb4.set_ 5 (.bool true)).set_ 0 (.slice A4 L4.length c4)
            have hpn := rdt_set (rdt_set hR4 hb4 (by decide) 5 (.bool true)) (hb4.set_ 5 _) (by decide) 0 (.slice A4 L4.length c4)
            have hOn := own_far (p := ⟨rg, 0, none⟩) (own_far (p := ⟨rg, 5, none⟩) hO4 hneO (.bool true)) hneO (.slice A4 L4.length c4)
            have hOOn := obs_map hOO4 (fun V l h => rdt_set (rdt_set h hb4 (by decide) 5 (.bool true)) (hb4.set_ 5 _) (by decide) 0 (.slice A4 L4.length c4))
            have hGn := grown_set (grown_set hG4 5 (.bool true)) 0 (.slice A4 L4.length c4)
            have hlnN : lenAt ((w4.setCell ⟨rg, 5, none⟩ (.bool true)).setCell ⟨rg, 0, none⟩ (.slice A4 L4.length c4)) rg = L4.length := by unfold lenAt; rw [hbn.cell 0]; rfl
            clear k5 k0 f5 f0 x1 x0 hb4 hO4 hOO4 hG4 hp4 hC4 hR4
            replace hS := hS.out
            go_roundw
            case rel => exact ⟨k + 1, obs, _, _, ⟨true, hd.getD h, sm, lg, lo, L4, out, 0⟩, rfl, rfl, (hT.trans hS).symm, hco1, HOO.out, hOn, hOOn, hbn, hpn, hsn, by simp only; omega, hGn⟩
            case measure => simp [intOf, hln, hlnN]; omega
          · have hS : stepR ⟨false, h, sm, lg, lo, p, out, 0⟩ = ⟨false, hd.getD h, sm, lg, lo, p, out, E⟩ := by rw [hS0]; simp [hE]
            rw [hS] at hsh
            have hsn := hsh.1
            simp only at hsn
            clear hsh hS0
            have g0 : (E == 0) = false := by simpa using hE
            have HE := Lib.hid hE
            clear hE
            have hS := Lib.hid hS
            go_wp2_with fail
            have hbn := hb4.set_ 5 (.bool false)
            have hpn := rdt_set hp4 hb4 (by decide) 5 (.bool false)
            have hOn := own_far (p := ⟨rg, 5, none⟩) hO4 hneO (.bool false)
            have hOOn := obs_map hOO4 (fun V l h => rdt_set h hb4 (by decide) 5 (.bool false))
            have hGn := grown_set hG4 5 (.bool false)
            clear k5 k0 f5 f0 x1 x0 hb4 hO4 hOO4 hG4 hp4 hC4 hR4
            replace hS := hS.out
            go_roundw
            case rel => exact ⟨k + 1, obs, _, _, ⟨false, hd.getD h, sm, lg, lo, p, out, E⟩, rfl, rfl, (hT.trans hS).symm, hco1, HOO.out, hOn, hOOn, hbn, hpn, hsn, by simp only; omega, hGn⟩
            case measure => simp [intOf, hln, HE.out]
      · by_cases hp0 : p.length = 0
        · obtain rfl : p = [] := List.eq_nil_of_length_eq_zero hp0
          simp only [List.length_nil] at hb hp c0 hln hlen
          have hne := own_blk_ne hO hb (by decide)
          have c9 : wr.cell? ⟨rg, 9, none⟩ = some (.bool false) := hb.cell 9
          have f9 := hb.frozen 9
          have f0 := hb.frozen 0
          have hcf : (iterR k s0).cont = false := by rw [← HST.out]; unfold RS.cont; simp
          obtain ⟨Ao, co, rfl, _⟩ := sl_of_own hO
          clear hln
          have hpe : putE 0 fin = 0 := rfl
          go_wp2_with fail
          go_ret2
          first | exact ⟨k, obs, .slice Ao obs.length co, by rw [HS0.out] at *; exact HCO.out, by rw [← HS0.out]; exact hcf, by rw [← HS0.out, ← HST.out, hpe]; rfl, by rw [← HS0.out, ← HST.out]; exact HOO.out, own_far hO hne _, obs_map hOO (fun V l h => rdt_set h hb (by decide) 9 _), grown_set hG _ _⟩ | exact ⟨k, by rw [HS0.out] at *; exact HCO.out, by rw [← HS0.out]; exact hcf, obs, .slice Ao obs.length co, by rw [← HS0.out, ← HST.out, hpe]; rfl, by rw [← HS0.out, ← HST.out]; exact HOO.out, own_far hO hne _, obs_map hOO (fun V l h => rdt_set h hb (by decide) 9 _), grown_set hG _ _⟩
        · obtain ⟨f, id, hg, hp'⟩ := h
          have hct : RS.cont ⟨true, (f, id, hg, hp'), sm, lg, lo, p, out, 0⟩ = true := by simp [RS.cont]; intro e; rw [e] at hp0; exact hp0 rfl
          have hco1 : ∀ j, j < k + 1 → (iterR j s0).cont = true := fun j hj => by
            by_cases hjk : j < k
            · exact HCO.out j hjk
            · obtain rfl : j = k := by omega
              rw [← HST.out]
              exact hct
          have hsh := step_ok hct hsk
          simp only at hsh
          have hl1 : 0 < (p.length : Int) := by omega
          have hbA := hb.alloc (.cells #[.slice Ap p.length cp, .int .i64 0] 74)
          have hcA : CutT (wr.alloc (.cells #[.slice Ap p.length cp, .int .i64 0] 74)) wr.heap.size p 0 := ⟨_, Blk.new wr _ _, hp.below ((Below.refl _ _).alloc (Nat.le_refl _) _)⟩
          go_wp2_with fail
          refine (object_any rg wr.heap.size (.slice Ap p.length cp) f id hg hp' true sm lg lo false (p, 0) _ hbA hcA hsk).mono ?_
          rintro e w4 ⟨V4, rfl, hv4, hc4, hg4⟩
          have hCA := Blk.new wr 74 #[.slice Ap p.length cp, .int .i64 0]
          have hf4 : ∀ V l, RdT wr V l → RdT w4 V l := fun V l hv => rdt_grown (hv.below ((Below.refl _ _).alloc (Nat.le_refl _) (.cells #[.slice Ap p.length cp, .int .i64 0] 74))) hCA (by decide) hg4
          have hO4 := own_grown (hO.alloc (.cells #[.slice Ap p.length cp, .int .i64 0] 74)) hg4 (.inr (own_blk_ne (hO.alloc _) hCA (by decide)))
          have hOO4 := obs_map hOO hf4
          have hb4 := hbA.grown hg4 (by simp; omega)
          have hG4 : w.grownBy w4 (some rg) := grown_two (grown_alloc hG (.cells #[.slice Ap p.length cp, .int .i64 0] 74)) hg4 hws
          have hp4 := hf4 _ _ hp
          have hneO := own_blk_ne hO4 hb4 (by decide)
          clear hf4 hg4 hCA hcA hbA hO hOO hb hp hG
          have hS0 : stepR ⟨true, (f, id, hg, hp'), sm, lg, lo, p, out, 0⟩ = stepO ⟨true, (f, id, hg, hp'), sm, lg, lo, p, out, 0⟩ := by unfold stepR; rw [if_neg (by simp)]
          unfold stepO at hS0
          simp only at hS0
          obtain ⟨FF, hFF⟩ : ∃ FF, FF = objS f hg hp' sm lg lo (p, 0) := ⟨_, rfl⟩
          rw [← hFF] at hS0 hv4 hc4 ⊢
          clear hFF
          obtain ⟨⟨G, O, P⟩, d, L4, E⟩ := FF
          simp only at hS0 hv4 hc4 ⊢
          obtain ⟨AV, cV, rfl⟩ := hv4.form
          have hr4 := hb4.lt
          by_cases hE : E = 0
          · subst hE
            have hS : stepR ⟨true, (f, id, hg, hp'), sm, lg, lo, p, out, 0⟩ = ⟨true, (f, id, hg, hp'), true, G, O, L4, out ++ [((G, O, P), d)], 0⟩ := by rw [hS0]; simp
            rw [hS] at hsh
            have hsh2 := hsh.2 rfl
            have hsn := hsh.1
            simp only at hsh2 hsn
            clear hsh hS0
            have HS := Lib.hid hS
            clear hS
            go_wp2_with fail
            refine wp_world (fun wv => Blk wv rg 81 (rdrV (.slice Ap p.length cp) (f, id, hg, hp') true sm lg lo false) ∧ CutT wv wr.heap.size L4 0 ∧ wv.ownsRow w.heap.size 29 5 ov obs.length (obcells obs) ∧ ObsOk wv obs ∧ RdT wv (.slice Ap p.length cp) p ∧ RdT wv (.slice AV d.length cV) d ∧ Blk wv w4.heap.size 29 #[.int .u64 G, .int .u64 O, .int .u8 P, .bool false, .slice AV d.length cV] ∧ w.grownBy wv (some rg)) ?_ ?_
            · have hfa : ∀ V l, RdT w4 V l → RdT (w4.alloc (.cells #[.int .u64 G, .int .u64 O, .int .u8 P, .bool false, .slice AV d.length cV] 29)) V l := fun V l hv => hv.below ((Below.refl _ _).alloc (Nat.le_refl _) _)
              exact ⟨hb4.alloc _, hc4.alloc _, hO4.alloc _, obs_map hOO4 hfa, hfa _ _ hp4, hfa _ _ hv4, Blk.new w4 _ _, grown_alloc hG4 _⟩
            have hnew0 : ov.ownBlock ≠ some w4.heap.size := fun e => by have := (hO4.lt _ e).2; omega
            clear hb4 hc4 hO4 hOO4 hp4 hv4 hG4 c0 c5
            rintro w6 ⟨hb6, hc6, hO6, hOO6, hp6, hv6, ho6, hG6⟩
            have hneO := own_blk_ne hO6 hb6 (by decide)
            have q6 : w6.cell? ⟨rg, 6, none⟩ = some (.bool sm) := hb6.cell 6
            have o0 : w6.cell? ⟨w4.heap.size, 0, none⟩ = some (.int .u64 G) := ho6.cell 0
            have o1 : w6.cell? ⟨w4.heap.size, 1, none⟩ = some (.int .u64 O) := ho6.cell 1
            have o2 : w6.cell? ⟨w4.heap.size, 2, none⟩ = some (.int .u8 P) := ho6.cell 2
            have o3 : w6.cell? ⟨w4.heap.size, 3, none⟩ = some (.bool false) := ho6.cell 3
            have o4 : w6.cell? ⟨w4.heap.size, 4, none⟩ = some (.slice AV d.length cV) := ho6.cell 4
            have hol := ho6.lt
            have hr6 := hb6.lt
            have hone := obc_one ((G, O, P), d, .slice AV d.length cV) w6 hv6
            have hnew := hnew0
            go_region_law ((refine step_append_lies _ (by rfl) _ _ _ (by rfl) w.heap.size 29 j0 _ 5 48 Try.underlying44 hj hy0 hy1 hy2 rfl (by decide) ov obs.length _ (by rfl) (by exact hO6.alloc _) ⟨w6.heap.size, 0, none⟩ 1 1 (obc ((G, O, P), d, .slice AV d.length cV)) (by rfl) (by rfl) (World.news_of_block (cs := #[.int .u64 G, .int .u64 O, .int .u8 P, .bool false, .slice AV d.length cV]) (t := 29) (fr := (0, 0)) (heap_alloc_new w6 _)) hone (by decide) (by unfold maxLen; omega) (by omega) (by simp; have := hG6.size; omega) (w6.heap.size + 1) (by simp) ?_; intro gg c7 w7 hown7 hgrow7 hat7 hlt7; have hb7 := ((hb6.alloc (.cells #[.int .u64 G, .int .u64 O, .int .u8 P, .bool false, .slice AV d.length cV] 29)).drew).grown hgrow7 (Ne.symm hneO); have z6 : w7.cell? ⟨rg, 6, none⟩ = some (.bool sm) := hb7.cell 6; have z7 : w7.cell? ⟨rg, 7, none⟩ = some (.int .u64 lg) := hb7.cell 7; have z8 : w7.cell? ⟨rg, 8, none⟩ = some (.int .u64 lo) := hb7.cell 8; have y6 := hb7.frozen 6; have y7 := hb7.frozen 7; have y8 := hb7.frozen 8; have ho7 := ((ho6.alloc (.cells #[.int .u64 G, .int .u64 O, .int .u8 P, .bool false, .slice AV d.length cV] 29)).drew).grown hgrow7 (Ne.symm hnew); have u0 : w7.cell? ⟨w4.heap.size, 0, none⟩ = some (.int .u64 G) := ho7.cell 0; have u1 : w7.cell? ⟨w4.heap.size, 1, none⟩ = some (.int .u64 O) := ho7.cell 1))
            all_goals
              have hpw := put_world hb6 hc6 hO6 hOO6 hp6 hv6 hG6 hown7 (by first | exact grown_trans (World.grownBy_alloc w6 (.cells #[.int .u64 G, .int .u64 O, .int .u8 P, .bool false, .slice AV d.length cV] 29) _) hgrow7 | exact grown_trans (grown_drew (World.grownBy_alloc w6 (.cells #[.int .u64 G, .int .u64 O, .int .u8 P, .bool false, .slice AV d.length cV] 29) _)) hgrow7) _ rfl
              generalize hwz : ((w7.setCell ⟨rg, 6, none⟩ (.bool true)).setCell ⟨rg, 7, none⟩ (.int .u64 G)).setCell ⟨rg, 8, none⟩ (.int .u64 O) = wz at hpw ⊢
              obtain ⟨hbm, hcm, hOm, hOOm, hpm, hGm⟩ := hpw
              obtain ⟨V5, hC5, hR5⟩ := hcm
              obtain ⟨A5, c5, rfl⟩ := hR5.form
              clear hwz hown7 hgrow7 hat7 hlt7 hb7 z6 z7 z8 y6 y7 y8 ho7 u0 u1 o0 o1 o2 o3 o4 ho6 hb6 hc6 hO6 hOO6 hp6 hv6 hG6 hone hnew hneO q6
              have k0 : wz.cell? ⟨rg, 0, none⟩ = some (.slice Ap p.length cp) := hbm.cell 0
              have f0 := hbm.frozen 0
              have x1 : wz.cell? ⟨wr.heap.size, 1, none⟩ = some (.int .i64 0) := hC5.cell 1
              have x0 : wz.cell? ⟨wr.heap.size, 0, none⟩ = some (.slice A5 L4.length c5) := hC5.cell 0
              have hcl := hC5.lt
              have hneM := own_blk_ne hOm hbm (by decide)
              go_wp2_with fail
              have hbn := hbm.set_ 0 (.slice A5 L4.length c5)
              have hpn := rdt_set hR5 hbm (by decide) 0 (.slice A5 L4.length c5)
              have hOn := own_far (p := ⟨rg, 0, none⟩) hOm hneM (.slice A5 L4.length c5)
              have hOOn := obs_map hOOm (fun V l h => rdt_set h hbm (by decide) 0 (.slice A5 L4.length c5))
              have hGn := grown_set hGm 0 (.slice A5 L4.length c5)
              have hlnN : lenAt (wz.setCell ⟨rg, 0, none⟩ (.slice A5 L4.length c5)) rg = L4.length := by unfold lenAt; rw [hbn.cell 0]; rfl
              clear k0 f0 x1 x0 hbm hpm hOm hOOm hGm hC5 hR5 hneM
              have hS := HS.out
              go_roundw
              case rel => exact ⟨k + 1, obs ++ [((G, O, P), d, .slice AV d.length cV)], _, _, ⟨true, (f, id, hg, hp'), true, G, O, L4, out ++ [((G, O, P), d)], 0⟩, rfl, rfl, (hT.trans hS).symm, hco1, (by rw [show obOut (obs ++ [((G, O, P), d, Value.slice AV d.length cV)]) = obOut obs ++ [((G, O, P), d)] by simp [obOut], HOO.out]), hOn, hOOn, hbn, hpn, hsn, by simp only [List.length_append, List.length_cons, List.length_nil]; omega, hGn⟩
              case measure => simp [intOf, hln, hlnN]; omega
          · have hS : stepR ⟨true, (f, id, hg, hp'), sm, lg, lo, p, out, 0⟩ = ⟨true, (f, id, hg, hp'), sm, lg, lo, p, out, E⟩ := by rw [hS0]; simp [hE]
            rw [hS] at hsh
            have hsn := hsh.1
            simp only at hsn
            clear hsh hS0
            have g0 : (E == 0) = false := by simpa using hE
            have HE := Lib.hid hE
            clear hE
            obtain ⟨V5, hC4, hR4⟩ := hc4
            have hfa : ∀ V l, RdT w4 V l → RdT (w4.alloc (.cells #[.int .u64 G, .int .u64 O, .int .u8 P, .bool false, .slice AV d.length cV] 29)) V l := fun V l hv => hv.below ((Below.refl _ _).alloc (Nat.le_refl _) _)
            have x1 : World.cell? (w4.alloc (.cells #[.int .u64 G, .int .u64 O, .int .u8 P, .bool false, .slice AV d.length cV] 29)) ⟨wr.heap.size, 1, none⟩ = some (.int .i64 E) := (hC4.alloc _).cell 1
            have hc4l := hC4.lt
            have hS := Lib.hid hS
            go_wp2_with fail
            have hbn := hb4.alloc (.cells #[.int .u64 G, .int .u64 O, .int .u8 P, .bool false, .slice AV d.length cV] 29)
            have hpn := hfa _ _ hp4
            have hOn := hO4.alloc (.cells #[.int .u64 G, .int .u64 O, .int .u8 P, .bool false, .slice AV d.length cV] 29)
            have hOOn := obs_map hOO4 hfa
            have hGn := grown_alloc hG4 (.cells #[.int .u64 G, .int .u64 O, .int .u8 P, .bool false, .slice AV d.length cV] 29)
            clear hb4 hO4 hOO4 hp4 hv4 hG4 c0 c5 hfa x1 hC4 hR4
            replace hS := hS.out
            go_roundw
            case rel => exact ⟨k + 1, obs, _, _, ⟨true, (f, id, hg, hp'), sm, lg, lo, p, out, E⟩, rfl, rfl, (hT.trans hS).symm, hco1, HOO.out, hOn, hOOn, hbn, hpn, hsn, by simp only; omega, hGn⟩
            case measure => simp [intOf, hln, HE.out]
    · have hne := own_blk_ne hO hb (by decide)
      have c9 : wr.cell? ⟨rg, 9, none⟩ = some (.bool false) := hb.cell 9
      have f9 := hb.frozen 9
      have f0 := hb.frozen 0
      have hcf : (iterR k s0).cont = false := by rw [← HST.out]; unfold RS.cont; simp [he]
      obtain ⟨Ao, co, rfl, _⟩ := sl_of_own hO
      clear hln
      obtain ⟨E, hE⟩ : ∃ E, E = st.e := ⟨_, rfl⟩
      rw [← hE] at he ⊢
      have HE := Lib.hid hE
      clear hE
      have g0 : (E == 0) = false := by simpa using he
      by_cases h3 : E = 3
      · have hpe : putE st.e fin = 4 := by rw [← HE.out]; unfold putE; rw [if_pos (.inl h3)]
        subst h3
        go_wp2_with fail
        go_ret2
        first | exact ⟨k, obs, .slice Ao obs.length co, by rw [HS0.out] at *; exact HCO.out, by rw [← HS0.out]; exact hcf, by rw [← HS0.out, ← HST.out, hpe]; rfl, by rw [← HS0.out, ← HST.out]; exact HOO.out, own_far (own_far (own_far hO hne _) hne _) hne _, obs_map hOO (fun V l h => rdt_set (rdt_set (rdt_set h hb (by decide) 9 _) (hb.set_ 9 _) (by decide) 9 _) ((hb.set_ 9 _).set_ 9 _) (by decide) 0 _), grown_set (grown_set (grown_set hG _ _) _ _) _ _⟩ | exact ⟨k, by rw [HS0.out] at *; exact HCO.out, by rw [← HS0.out]; exact hcf, obs, .slice Ao obs.length co, by rw [← HS0.out, ← HST.out, hpe]; rfl, by rw [← HS0.out, ← HST.out]; exact HOO.out, own_far (own_far (own_far hO hne _) hne _) hne _, obs_map hOO (fun V l h => rdt_set (rdt_set (rdt_set h hb (by decide) 9 _) (hb.set_ 9 _) (by decide) 9 _) ((hb.set_ 9 _).set_ 9 _) (by decide) 0 _), grown_set (grown_set (grown_set hG _ _) _ _) _ _⟩
      · have g3 : (E == 3) = false := by simpa using h3
        by_cases h4 : E = 4
        · have hpe : putE st.e fin = 4 := by rw [← HE.out]; unfold putE; rw [if_pos (.inr (.inl h4))]
          subst h4
          go_wp2_with fail
          go_ret2
          first | exact ⟨k, obs, .slice Ao obs.length co, by rw [HS0.out] at *; exact HCO.out, by rw [← HS0.out]; exact hcf, by rw [← HS0.out, ← HST.out, hpe]; rfl, by rw [← HS0.out, ← HST.out]; exact HOO.out, own_far (own_far (own_far hO hne _) hne _) hne _, obs_map hOO (fun V l h => rdt_set (rdt_set (rdt_set h hb (by decide) 9 _) (hb.set_ 9 _) (by decide) 9 _) ((hb.set_ 9 _).set_ 9 _) (by decide) 0 _), grown_set (grown_set (grown_set hG _ _) _ _) _ _⟩ | exact ⟨k, by rw [HS0.out] at *; exact HCO.out, by rw [← HS0.out]; exact hcf, obs, .slice Ao obs.length co, by rw [← HS0.out, ← HST.out, hpe]; rfl, by rw [← HS0.out, ← HST.out]; exact HOO.out, own_far (own_far (own_far hO hne _) hne _) hne _, obs_map hOO (fun V l h => rdt_set (rdt_set (rdt_set h hb (by decide) 9 _) (hb.set_ 9 _) (by decide) 9 _) ((hb.set_ 9 _).set_ 9 _) (by decide) 0 _), grown_set (grown_set (grown_set hG _ _) _ _) _ _⟩
        · have g4 : (E == 4) = false := by simpa using h4
          by_cases h2 : E = 2
          · cases fin
            · have hpe : putE st.e false = 0 := by rw [← HE.out]; unfold putE; rw [if_neg (by simp; omega)]
              subst h2
              go_wp2_with fail
              go_ret2
              first | exact ⟨k, obs, .slice Ao obs.length co, by rw [HS0.out] at *; exact HCO.out, by rw [← HS0.out]; exact hcf, by rw [← HS0.out, ← HST.out, hpe]; rfl, by rw [← HS0.out, ← HST.out]; exact HOO.out, own_far hO hne _, obs_map hOO (fun V l h => rdt_set h hb (by decide) 9 _), grown_set hG _ _⟩ | exact ⟨k, by rw [HS0.out] at *; exact HCO.out, by rw [← HS0.out]; exact hcf, obs, .slice Ao obs.length co, by rw [← HS0.out, ← HST.out, hpe]; rfl, by rw [← HS0.out, ← HST.out]; exact HOO.out, own_far hO hne _, obs_map hOO (fun V l h => rdt_set h hb (by decide) 9 _), grown_set hG _ _⟩
            · have hpe : putE st.e true = 4 := by rw [← HE.out]; unfold putE; rw [if_pos (.inr (.inr ⟨h2, rfl⟩))]
              subst h2
              go_wp2_with fail
              go_ret2
              first | exact ⟨k, obs, .slice Ao obs.length co, by rw [HS0.out] at *; exact HCO.out, by rw [← HS0.out]; exact hcf, by rw [← HS0.out, ← HST.out, hpe]; rfl, by rw [← HS0.out, ← HST.out]; exact HOO.out, own_far (own_far (own_far hO hne _) hne _) hne _, obs_map hOO (fun V l h => rdt_set (rdt_set (rdt_set h hb (by decide) 9 _) (hb.set_ 9 _) (by decide) 9 _) ((hb.set_ 9 _).set_ 9 _) (by decide) 0 _), grown_set (grown_set (grown_set hG _ _) _ _) _ _⟩ | exact ⟨k, by rw [HS0.out] at *; exact HCO.out, by rw [← HS0.out]; exact hcf, obs, .slice Ao obs.length co, by rw [← HS0.out, ← HST.out, hpe]; rfl, by rw [← HS0.out, ← HST.out]; exact HOO.out, own_far (own_far (own_far hO hne _) hne _) hne _, obs_map hOO (fun V l h => rdt_set (rdt_set (rdt_set h hb (by decide) 9 _) (hb.set_ 9 _) (by decide) 9 _) ((hb.set_ 9 _).set_ 9 _) (by decide) 0 _), grown_set (grown_set (grown_set hG _ _) _ _) _ _⟩
          · have g2 : (E == 2) = false := by simpa using h2
            have hpe : putE st.e fin = 0 := by rw [← HE.out]; unfold putE; rw [if_neg (by omega)]
            go_wp2_with fail
            go_ret2
            first | exact ⟨k, obs, .slice Ao obs.length co, by rw [HS0.out] at *; exact HCO.out, by rw [← HS0.out]; exact hcf, by rw [← HS0.out, ← HST.out, hpe]; rfl, by rw [← HS0.out, ← HST.out]; exact HOO.out, own_far hO hne _, obs_map hOO (fun V l h => rdt_set h hb (by decide) 9 _), grown_set hG _ _⟩ | exact ⟨k, by rw [HS0.out] at *; exact HCO.out, by rw [← HS0.out]; exact hcf, obs, .slice Ao obs.length co, by rw [← HS0.out, ← HST.out, hpe]; rfl, by rw [← HS0.out, ← HST.out]; exact HOO.out, own_far hO hne _, obs_map hOO (fun V l h => rdt_set h hb (by decide) 9 _), grown_set hG _ _⟩

end Go.Proofs.Ythmdbkefbbjfmaa
