/-
  What the reference tells of samples.
-/
import Derived.Test.YtlnenndlenckjaaPpairs
namespace Go.Proofs.Ytlnenndlenckjaa
open Go.RowKit
set_option linter.unusedVariables false
set_option linter.unusedSimpArgs false


theorem ckAll_some (L : List (Int × Int)) (h : 0 < L.length) : (ckAll L).some = true := by
  have gen : ∀ (L : List (Int × Int)) (c : Ck), c.some = true → (L.foldl (fun c p => smp c p.1 p.2) c).some = true := by
    intro L
    induction L with
    | nil => exact fun c hc => hc
    | cons p r ih =>
      intro c hc
      refine ih _ ?_
      show (smp c p.1 p.2).some = true
      unfold smp
      rw [if_pos hc]
      rfl
  match L, h with
  | p :: r, _ =>
    refine gen r _ ?_
    rfl
def RO (w : World) (g : Nat) (c : Ck) : Prop := Blk w g 29 #[.int .u64 c.la, .int .u64 c.le, .int .u64 c.sm, .int .u64 c.va]
theorem RO.mk {w : World} {g : Nat} {c : Ck} {a b d e : Int} (h : Blk w g 29 #[.int .u64 a, .int .u64 b, .int .u64 d, .int .u64 e]) (hc : c.la = a ∧ c.le = b ∧ c.sm = d ∧ c.va = e) : RO w g c := by
  obtain ⟨rfl, rfl, rfl, rfl⟩ := hc
  exact h

set_option maxHeartbeats 4000000 in
set_option maxRecDepth 100000 in
theorem rtold_any (A : Option Addr) (n cap : Nat) (L : List (Int × Int)) (w : World) (hp : Pairs w A n L) (hk : PairsOk L) (hnc : n ≤ cap) (hcm : cap ≤ 9223372036854775807) :
    Calls Try.prog 11 #[.slice A n cap] w fun e w' => e = .returned (.agg #[.int .u64 (ckAll L).la, .int .u64 (ckAll L).le, .int .u64 (ckAll L).sm, .int .u64 (ckAll L).va]) ∧ Below w.heap.size w w' := by
  have HP := Lib.hid hp
  have HK := Lib.hid hk
  have HL := Lib.hid hp.1
  clear hp hk
  go_enter Try.func11, Try.ntmps11
  go_wp2_with fail
  go_loopw [12] (fun i wr => ∃ (k : Nat) (c : Ck), k ≤ n ∧ i = .int .i64 k ∧ c = ckAll (L.take k) ∧ RO wr (w.heap.size + 1) c ∧ Blk wr w.heap.size 29 #[.int .u64 0, .int .u64 0, .int .u64 0, .int .u64 0] ∧ Below w.heap.size w wr) (fun i _ => n - (intOf i).toNat)
  case atStart => exact ⟨0, ck0, Nat.zero_le _, rfl, rfl, by first | exact Blk.new _ _ _ | exact blk_new_at (by simp), (Blk.new _ _ _).alloc _, ((Below.refl _ _).alloc (Nat.le_refl _) _).alloc (by simp) _⟩
  case round =>
    obtain ⟨k, c, hkn, rfl, hce, hr, hz, hB⟩ := hrel
    have hco : CkOk c := by rw [hce]; exact ckAll_ok _ (HK.out.take k)
    have HC := Lib.hid hce
    clear hce
    by_cases hlt : k < n
    · obtain ⟨b, off, rfl, hb, c0, c1⟩ := (HP.out.below hB).2 k hlt
      have hxy := HK.out.getD k
      have hst := ckAll_take L k (by rw [HL.out]; exact hlt)
      obtain ⟨x, hx⟩ : ∃ x, x = (L.getD k (0, 0)).1 := ⟨_, rfl⟩
      obtain ⟨y, hy⟩ : ∃ y, y = (L.getD k (0, 0)).2 := ⟨_, rfl⟩
      rw [← hx] at c0 hxy hst
      rw [← hy] at c1 hxy hst
      rw [← HC.out] at hst
      have HS := Lib.hid hst
      clear hx hy hst
      have hb2 : w.heap.size + 1 < wr.heap.size := Blk.lt hr
      have hAo := cap40_ok x hxy.1.1
      have hDo := cap40_ok y hxy.2.1
      have hB2 := hB.alloc hB.size (.cells #[.int .u64 x, .int .u64 y] 27)
      have hr2 : RO (wr.alloc (.cells #[.int .u64 x, .int .u64 y] 27)) (w.heap.size + 1) c := Blk.alloc hr _
      have hz2 := hz.alloc (.cells #[.int .u64 x, .int .u64 y] 27)
      go_wp2_with fail
      go_quiet (fail)
      go_upto_if 22 with (fail)
      go_cut [6] (fun s6 wx => s6 = .int .u64 (cap40 x) ∧ RO wx (w.heap.size + 1) c ∧ Blk wx w.heap.size 29 #[.int .u64 0, .int .u64 0, .int .u64 0, .int .u64 0] ∧ Below w.heap.size w wx)
      case first =>
        clear c0 c1
        by_cases h1 : 1099511627776 < x
        · have E1 : Hid (cap40 x = 1099511627776) := if_pos h1
          go_wp2_with fail
          go_meet
          exact ⟨by rw [E1.out], hr2, hz2, below_drewN hB2 _⟩
        · have E1 : Hid (cap40 x = x) := if_neg h1
          go_wp2_with fail
          go_meet
          exact ⟨by rw [E1.out], hr2, hz2, below_drewN hB2 _⟩
      case rest =>
       obtain ⟨rfl, hr4, hz4, hB4⟩ := hcut
       clear hr hz hr2 hz2 hB2 hB c0 c1
       go_upto_if 24 with (fail)
       go_cut [7] (fun s6 wx => s6 = .int .u64 (cap40 y) ∧ RO wx (w.heap.size + 1) c ∧ Blk wx w.heap.size 29 #[.int .u64 0, .int .u64 0, .int .u64 0, .int .u64 0] ∧ Below w.heap.size w wx)
       case first =>
         skip
         by_cases h1 : 1099511627776 < y
         · have E1 : Hid (cap40 y = 1099511627776) := if_pos h1
           go_wp2_with fail
           go_meet
           exact ⟨by rw [E1.out], hr4, hz4, hB4⟩
         · have E1 : Hid (cap40 y = y) := if_neg h1
           go_wp2_with fail
           go_meet
           exact ⟨by rw [E1.out], hr4, hz4, hB4⟩
       case rest =>
         obtain ⟨rfl, hr3, hz3, hB3⟩ := hcut
         clear hr4 hz4 hB4
         have hsm : smp c x y = if c.some = true then ckStep c.le c.sm c.va (cap40 x) (cap40 y) else ⟨true, cap40 x, cap40 x, cap40 x, cap40 x / 2⟩ := rfl
         generalize cap40 x = A at *
         generalize cap40 y = D at *
         obtain ⟨c', hc'⟩ : ∃ c', c' = smp c x y := ⟨_, rfl⟩
         rw [← hc'] at hsm HS
         clear hc'
         have o0 : wc.cell? ⟨w.heap.size + 1, 0, none⟩ = some (.int .u64 c.la) := Blk.cell hr3 0
         have o1 : wc.cell? ⟨w.heap.size + 1, 1, none⟩ = some (.int .u64 c.le) := Blk.cell hr3 1
         have o2 : wc.cell? ⟨w.heap.size + 1, 2, none⟩ = some (.int .u64 c.sm) := Blk.cell hr3 2
         have o3 : wc.cell? ⟨w.heap.size + 1, 3, none⟩ = some (.int .u64 c.va) := Blk.cell hr3 3
         have f0 := Blk.frozen hr3 0
         have f1 := Blk.frozen hr3 1
         have f2 := Blk.frozen hr3 2
         have f3 := Blk.frozen hr3 3
         unfold RO at hr3
         by_cases hk0 : k = 0
         · have hk0' : ((k : Int) == 0) = true := by simp; omega
           have hcs : c.some = false := by rw [HC.out, hk0]; rfl
           rw [if_neg (by rw [hcs]; simp)] at hsm
           have HSM := Lib.hid hsm
           clear hsm hcs hk0
           go_wp2_with fail
           go_roundw
           case rel => exact ⟨k + 1, c', by omega, by go_num, HS.out.symm, RO.mk ((((hr3.set_ 0 _).set_ 1 _).set_ 2 _).set_ 3 _) (by rw [HSM.out]; exact ⟨rfl, rfl, rfl, rfl⟩), hz3.far (by simp) _ |>.far (by simp) _ |>.far (by simp) _ |>.far (by simp) _, by first | exact (((hB3.setCell (by simp) _).setCell (by simp) _).setCell (by simp) _).setCell (by simp) _⟩
           case measure => simp [intOf]; omega
         · have hk0' : ((k : Int) == 0) = false := by simp; omega
           have hcs : c.some = true := by rw [HC.out]; exact ckAll_some _ (by rw [List.length_take, HL.out]; omega)
           rw [if_pos hcs] at hsm
           have k0 := hco.e0
           have k1 := hco.e1
           have k2 := hco.s0
           have k3 := hco.s1
           have k4 := hco.v0
           have k5 := hco.v1
           unfold ckStep at hsm
           clear hcs hk0 hco
           by_cases h1 : A < c.le
           · simp only [if_pos h1] at hsm
             by_cases h2 : A + D ≤ A
             · simp only [if_pos h2] at hsm
               by_cases h3 : A - D < c.sm
               · simp only [if_pos h3, if_neg (show ¬ c.sm < A - D by omega)] at hsm
                 have HSM := Lib.hid hsm
                 clear hsm
                 go_wp2_with fail
                 go_roundw
                 case rel => exact ⟨k + 1, c', by omega, by go_num, HS.out.symm, RO.mk ((((hr3.set_ 0 _).set_ 1 _).set_ 3 _).set_ 2 _) (by rw [HSM.out]; exact ⟨rfl, rfl, rfl, rfl⟩), ((((hz3.far (by simp) _).far (by simp) _).far (by simp) _).far (by simp) _), ((((hB3.setCell (by simp) _).setCell (by simp) _).setCell (by simp) _).setCell (by simp) _)⟩
                 case measure => simp [intOf]; omega
               · have eP : (if c.sm < A - D then A - D else c.sm) = A - D := by split <;> omega
                 simp only [if_neg h3, eP] at hsm
                 clear eP
                 have HSM := Lib.hid hsm
                 clear hsm
                 go_wp2_with fail
                 go_roundw
                 case rel => exact ⟨k + 1, c', by omega, by go_num, HS.out.symm, RO.mk ((((hr3.set_ 0 _).set_ 1 _).set_ 3 _).set_ 2 _) (by rw [HSM.out]; exact ⟨rfl, rfl, rfl, rfl⟩), ((((hz3.far (by simp) _).far (by simp) _).far (by simp) _).far (by simp) _), ((((hB3.setCell (by simp) _).setCell (by simp) _).setCell (by simp) _).setCell (by simp) _)⟩
                 case measure => simp [intOf]; omega
             · simp only [if_neg h2] at hsm
               by_cases h3 : A < c.sm
               · simp only [if_pos h3, if_neg (show ¬ c.sm < A by omega)] at hsm
                 have HSM := Lib.hid hsm
                 clear hsm
                 go_wp2_with fail
                 go_roundw
                 case rel => exact ⟨k + 1, c', by omega, by go_num, HS.out.symm, RO.mk ((((hr3.set_ 0 _).set_ 1 _).set_ 3 _).set_ 2 _) (by rw [HSM.out]; exact ⟨rfl, rfl, rfl, rfl⟩), ((((hz3.far (by simp) _).far (by simp) _).far (by simp) _).far (by simp) _), ((((hB3.setCell (by simp) _).setCell (by simp) _).setCell (by simp) _).setCell (by simp) _)⟩
                 case measure => simp [intOf]; omega
               · have eP : (if c.sm < A then A else c.sm) = A := by split <;> omega
                 simp only [if_neg h3, eP] at hsm
                 clear eP
                 have HSM := Lib.hid hsm
                 clear hsm
                 go_wp2_with fail
                 go_roundw
                 case rel => exact ⟨k + 1, c', by omega, by go_num, HS.out.symm, RO.mk ((((hr3.set_ 0 _).set_ 1 _).set_ 3 _).set_ 2 _) (by rw [HSM.out]; exact ⟨rfl, rfl, rfl, rfl⟩), ((((hz3.far (by simp) _).far (by simp) _).far (by simp) _).far (by simp) _), ((((hB3.setCell (by simp) _).setCell (by simp) _).setCell (by simp) _).setCell (by simp) _)⟩
                 case measure => simp [intOf]; omega
           · simp only [if_neg h1] at hsm
             by_cases h2 : c.le + D ≤ A
             · simp only [if_pos h2] at hsm
               by_cases h3 : A - D < c.sm
               · simp only [if_pos h3, if_neg (show ¬ c.sm < A - D by omega)] at hsm
                 have HSM := Lib.hid hsm
                 clear hsm
                 go_wp2_with fail
                 go_roundw
                 case rel => exact ⟨k + 1, c', by omega, by go_num, HS.out.symm, RO.mk (((hr3.set_ 0 _).set_ 3 _).set_ 2 _) (by rw [HSM.out]; exact ⟨rfl, rfl, rfl, rfl⟩), (((hz3.far (by simp) _).far (by simp) _).far (by simp) _), (((hB3.setCell (by simp) _).setCell (by simp) _).setCell (by simp) _)⟩
                 case measure => simp [intOf]; omega
               · have eP : (if c.sm < A - D then A - D else c.sm) = A - D := by split <;> omega
                 simp only [if_neg h3, eP] at hsm
                 clear eP
                 have HSM := Lib.hid hsm
                 clear hsm
                 go_wp2_with fail
                 go_roundw
                 case rel => exact ⟨k + 1, c', by omega, by go_num, HS.out.symm, RO.mk (((hr3.set_ 0 _).set_ 3 _).set_ 2 _) (by rw [HSM.out]; exact ⟨rfl, rfl, rfl, rfl⟩), (((hz3.far (by simp) _).far (by simp) _).far (by simp) _), (((hB3.setCell (by simp) _).setCell (by simp) _).setCell (by simp) _)⟩
                 case measure => simp [intOf]; omega
             · simp only [if_neg h2] at hsm
               by_cases h3 : A < c.sm
               · simp only [if_pos h3, if_neg (show ¬ c.sm < A by omega)] at hsm
                 have HSM := Lib.hid hsm
                 clear hsm
                 go_wp2_with fail
                 go_roundw
                 case rel => exact ⟨k + 1, c', by omega, by go_num, HS.out.symm, RO.mk (((hr3.set_ 0 _).set_ 3 _).set_ 2 _) (by rw [HSM.out]; exact ⟨rfl, rfl, rfl, rfl⟩), (((hz3.far (by simp) _).far (by simp) _).far (by simp) _), (((hB3.setCell (by simp) _).setCell (by simp) _).setCell (by simp) _)⟩
                 case measure => simp [intOf]; omega
               · have eP : (if c.sm < A then A else c.sm) = A := by split <;> omega
                 simp only [if_neg h3, eP] at hsm
                 clear eP
                 have HSM := Lib.hid hsm
                 clear hsm
                 go_wp2_with fail
                 go_roundw
                 case rel => exact ⟨k + 1, c', by omega, by go_num, HS.out.symm, RO.mk (((hr3.set_ 0 _).set_ 3 _).set_ 2 _) (by rw [HSM.out]; exact ⟨rfl, rfl, rfl, rfl⟩), (((hz3.far (by simp) _).far (by simp) _).far (by simp) _), (((hB3.setCell (by simp) _).setCell (by simp) _).setCell (by simp) _)⟩
                 case measure => simp [intOf]; omega
    · have hkk : L.take k = L := List.take_of_length_le (by rw [HL.out]; omega)
      have hcc : c = ckAll L := by rw [HC.out, hkk]
      have HCC := Lib.hid hcc
      have o0 : wr.cell? ⟨w.heap.size + 1, 0, none⟩ = some (.int .u64 c.la) := Blk.cell hr 0
      have o1 : wr.cell? ⟨w.heap.size + 1, 1, none⟩ = some (.int .u64 c.le) := Blk.cell hr 1
      have o2 : wr.cell? ⟨w.heap.size + 1, 2, none⟩ = some (.int .u64 c.sm) := Blk.cell hr 2
      have o3 : wr.cell? ⟨w.heap.size + 1, 3, none⟩ = some (.int .u64 c.va) := Blk.cell hr 3
      have z0 := hz.frozen 0
      have z1 := hz.frozen 1
      have z2 := hz.frozen 2
      have z3 := hz.frozen 3
      have y0 : wr.cell? ⟨w.heap.size, 0, none⟩ = some (.int .u64 0) := hz.cell 0
      have y1 : wr.cell? ⟨w.heap.size, 1, none⟩ = some (.int .u64 0) := hz.cell 1
      have y2 : wr.cell? ⟨w.heap.size, 2, none⟩ = some (.int .u64 0) := hz.cell 2
      have y3 : wr.cell? ⟨w.heap.size, 3, none⟩ = some (.int .u64 0) := hz.cell 3
      have hlt2 : w.heap.size < wr.heap.size := hz.lt
      clear hcc hkk
      go_wp2_with fail
      refine bodyPost_ret (v := .agg #[.int .u64 c.la, .int .u64 c.le, .int .u64 c.sm, .int .u64 c.va]) (by simp [results, Try.results11, go_sem, o0, o1, o2, o3, y0, y1, y2, y3]) rfl ⟨by rw [HCC.out], ?_⟩
      exact (((hB.setCell (Nat.le_refl _) _).setCell (Nat.le_refl _) _).setCell (Nat.le_refl _) _).setCell (Nat.le_refl _) _

end Go.Proofs.Ytlnenndlenckjaa
