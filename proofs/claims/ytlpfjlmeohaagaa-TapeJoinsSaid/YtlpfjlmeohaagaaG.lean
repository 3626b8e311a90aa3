/- The walks of TapeJoins, part G: the reference of layer 11 (Check, Same) and the law file few. -/
import Derived.Test.YtlpfjlmeohaagaaA
import Derived.Test.YtlpfjlmeohaagaaPTapeJoinsx2
import Derived.IntWalk
namespace Go.Proofs.Ytlpfjlmeohaagaa
open Go.RowKit Go.Proofs.Ytlpfjlmeohaagaa.PTapeJoins Go.Proofs.YtlpfjlmeohaagaaW.PrintWords
set_option linter.unusedVariables false
set_option linter.unusedSimpArgs false

theorem few5 (t : S32) (A : Option Addr) (c : Nat) (w : World) :
    Calls Try.prog 5 #[.agg #[.int .u32 t.f0, .slice A t.f1.length c, .int .i64 t.f2.f0, .int .i64 t.f2.f1, .int .i64 t.f2.f2, .int .i64 t.f2.f3]] w fun e w' => e = .returned (.bool (decide ((t.f1.length : Int) ≤ 40))) ∧ Below w.heap.size w w' := by
  go_enter Try.func5, Try.ntmps5
  go_wp2
  go_ret
  exact ⟨rfl, (Below.refl _ _).alloc (Nat.le_refl _) _⟩

theorem within32 (a lo hi : Int) (w : World) : Calls Try.prog 32 #[.int .i64 a, .int .i64 lo, .int .i64 hi] w fun e w' => e = .returned (.bool (wi a lo hi)) ∧ w' = w := by
  by_cases h : lo ≤ a
  · have h1 : wi a lo hi = decide (a ≤ hi) := by simp [wi, h]
    rw [h1]; clear h1
    go_enter Try.func32, Try.ntmps32
    go_wp2
    go_ret
    exact ⟨rfl, rfl⟩
  · have h1 : wi a lo hi = false := by simp [wi, h]
    rw [h1]; clear h1
    go_enter Try.func32, Try.ntmps32
    go_wp2
    go_ret
    exact ⟨rfl, rfl⟩

set_option maxHeartbeats 1000000 in
theorem sameTurns23 (l : List S42) (A B : Option Addr) (c d : Nat) (w : World) (hA : Kd.C k42 w A l.length l) (hB : Kd.C k42 w B l.length l) :
    Calls Try.prog 23 #[.slice A l.length c, .slice B l.length d] w fun e w' => e = .returned (.bool true) ∧ Below w.heap.size w w' := by
  have hmax : l.length ≤ 9223372036854775807 := Kd.C_max hA
  have HA := Lib.hid hA
  have HB := Lib.hid hB
  clear hA hB
  have eqk := eqA42
  go_enter Try.func23, Try.ntmps23
  go_wp2
  go_loopw [5] (fun v5 wr => ∃ k : Nat, k ≤ l.length ∧ v5 = .int .i64 k ∧ Drawn0 w wr) (fun v5 _ => l.length - (intOf v5).toNat)
  case atStart => exact ⟨0, Nat.zero_le _, rfl, Drawn0.refl _⟩
  case round =>
    obtain ⟨k, hk, rfl, hd⟩ := hrel
    by_cases hlt : k < l.length
    · obtain ⟨ad, e1, x0, x1⟩ := at_T42 (Kd.C_below HA.out hd.below) (k : Int) (by omega) (by omega)
      obtain ⟨be, e2, y0, y1⟩ := at_T42 (Kd.C_below HB.out hd.below) (k : Int) (by omega) (by omega)
      subst e1 e2
      simp only [Int.toNat_natCast] at x0 x1 y0 y1
      have HD := Lib.hid hd
      clear hd
      go_wp2
      go_quiet (fail)
      go_wp2
      go_roundw
      case rel => exact ⟨k + 1, by omega, by go_num, HD.out.step _⟩
      case measure => simp [intOf]; omega
    · go_wp2
      go_ret
      exact ⟨rfl, hd.below⟩

theorem same8 (t : S32) (A B : Option Addr) (c d : Nat) (w : World) (hA : Kd.C k42 w A t.f1.length t.f1) (hB : Kd.C k42 w B t.f1.length t.f1) :
    Calls Try.prog 8 #[.agg #[.int .u32 t.f0, .slice A t.f1.length c, .int .i64 t.f2.f0, .int .i64 t.f2.f1, .int .i64 t.f2.f2, .int .i64 t.f2.f3], .agg #[.int .u32 t.f0, .slice B t.f1.length d, .int .i64 t.f2.f0, .int .i64 t.f2.f1, .int .i64 t.f2.f2, .int .i64 t.f2.f3]] w fun e w' => e = .returned (.bool true) ∧ Below w.heap.size w w' := by
  have eqk := eqA30
  have K := fun (o1 o2 : Obj) => sameTurns23 t.f1 A B c d _ (Kd.C_alloc (Kd.C_alloc hA o1) o2) (Kd.C_alloc (Kd.C_alloc hB o1) o2)
  have HA := Lib.hid hA
  have HB := Lib.hid hB
  clear hA hB
  go_enter Try.func8, Try.ntmps8
  go_wp2_with (first | (go_at_call 23; refine (K _ _).mono ?_; rintro e w1 ⟨rfl, hb1⟩; (obtain ⟨hc1, hf1⟩ := bcell hb1); have hz1 := hb1.size; simp only [World.size_alloc] at hz1))
  go_ret
  exact ⟨rfl, (((Below.refl w.heap.size w).alloc (Nat.le_refl _) _).alloc (by simp) _).trans (hb1.mono (by simp; omega))⟩

theorem addr_zero (ad : Addr) : ad.add 0 = ad := by simp [Addr.add]

structure RefSt (l : List S42) (w0 : World) (bx : Nat) (cs : Array Value) (k : Nat) (all : Int) (w : World) : Prop where
  hk : k ≤ l.length
  h0 : 0 ≤ all
  h1 : all ≤ 2147483647
  hok : okT l 0 (-1) = okT (l.drop k) all (if k = 0 then -1 else (rd_T42 l ((k : Int) - 1)).f0)
  hx : w.heap[bx]? = some (.cells cs 32 (0, 0))
  hb : Below w0.heap.size w0 w

set_option maxHeartbeats 2000000 in
theorem check21 (t : S32) (A : Option Addr) (c : Nat) (w : World) (hC : Kd.C k42 w A t.f1.length t.f1) (hc : t.f1.length ≤ c) :
    Calls Try.prog 21 #[.agg #[.int .u32 t.f0, .slice A t.f1.length c, .int .i64 t.f2.f0, .int .i64 t.f2.f1, .int .i64 t.f2.f2, .int .i64 t.f2.f3]] w fun e w' => e = .returned (.int .i64 (chkV (okB t))) ∧ Below w.heap.size w w' := by
  obtain ⟨h, l, o⟩ := t
  obtain ⟨o0, o1, o2, o3⟩ := o
  dsimp only at hC hc ⊢
  have hmax : l.length ≤ 9223372036854775807 := Kd.C_max hC
  have HC := Lib.hid hC
  clear hC
  by_cases hlen : l.length ≤ 65536
  · have hf : okB ⟨h, l, ⟨o0, o1, o2, o3⟩⟩ = (okT l 0 (-1) && endsB o0 o1 o2 o3) := by simp [okB, hlen, Bool.and_comm]
    rw [hf]
    clear hf
    have hgt : ¬ (65536 : Int) < (l.length : Int) := by omega
    go_enter Try.func21, Try.ntmps21
    go_wp2
    go_loopw [3, 4] (fun v3 v4 wr => ∃ (k : Nat) (all : Int), v4 = .int .i64 k ∧ v3 = .int .i64 all ∧ RefSt l w w.heap.size #[.int .u32 h, .slice A l.length c, .int .i64 o0, .int .i64 o1, .int .i64 o2, .int .i64 o3] k all wr)
      (fun _ v4 _ => l.length - (intOf v4).toNat)
    case atStart => exact ⟨0, 0, rfl, rfl, Nat.zero_le _, by omega, by omega, rfl, blk_new w _, (Below.refl _ w).alloc (Nat.le_refl _) _⟩
    case round =>
      obtain ⟨k, all, rfl, rfl, st⟩ := hrel
      have z1 : wr.cell? ⟨w.heap.size, 1, none⟩ = _ := blk_cell st.hx 1
      simp at z1
      have hs : w.heap.size < wr.heap.size := blk_lt st.hx
      by_cases hlt : k < l.length
      · obtain ⟨ad, hA, hx0, hx1⟩ := at_T42 (Kd.C_below HC.out st.hb) (k : Int) (by omega) (by omega)
        have hok := st.hok
        rw [drop_rd l k hlt] at hok
        obtain ⟨x, hx⟩ : ∃ x, rd_T42 l (k : Int) = x := ⟨_, rfl⟩
        rw [hx] at hok hx0 hx1
        obtain ⟨x0, x1⟩ := x
        subst hA
        simp only [Int.toNat_natCast] at hx0 hx1
        simp only [okT] at hok
        have h0 := st.h0
        have h1 := st.h1
        have HX := Lib.hid hx
        have ST := Lib.hid st
        have hB2 : ∀ nq, Below w.heap.size w ((wr.alloc (.cells #[.int .i64 x0, .int .i64 x1] 42)).drewN nq) := fun nq => pw_below_drewN (st.hb.alloc st.hb.size _) nq
        have HB2 := Lib.hid hB2
        clear hx st hB2
        obtain ⟨last, hlast⟩ : ∃ last, (if k = 0 then -1 else (rd_T42 l ((k : Int) - 1)).f0) = last := ⟨_, rfl⟩
        rw [hlast] at hok
        have HL := Lib.hid hlast
        have HOK := Lib.hid hok
        clear hlast hok
        by_cases c1 : wi x0 0 7 = true
        · by_cases c2 : wi x1 1 2147483647 = true
          · have c2' := wi_iff.1 c2
            have h4 := c2'.1
            have h5 := c2'.2
            clear c2'
            have hyes : all + x1 ≤ 2147483647 → (x0 != last) = true → okT l 0 (-1) = okT (l.drop (k + 1)) (all + x1) (if k + 1 = 0 then -1 else (rd_T42 l (((k + 1 : Nat) : Int) - 1)).f0) := by
              intro c4 hne
              have c4w : wi x1 1 (2147483647 - all) = true := wi_iff.2 (by omega)
              rw [HOK.out, c1, c4w, hne, if_neg (by omega), show (((k + 1 : Nat) : Int) - 1) = (k : Int) by omega, HX.out]
              rfl
            have hno : ¬ all + x1 ≤ 2147483647 → chkV (okT l 0 (-1) && endsB o0 o1 o2 o3) = 2 := by
              intro c4
              have c4w : wi x1 1 (2147483647 - all) = false := by
                rw [Bool.eq_false_iff]
                intro hh
                have := wi_iff.1 hh
                omega
              rw [HOK.out, c1, c4w]; rfl
            have hsame : (x0 != last) = false → chkV (okT l 0 (-1) && endsB o0 o1 o2 o3) = 2 := by
              intro hh
              rw [HOK.out, c1, hh]
              cases wi x1 1 (2147483647 - all) <;> rfl
            have HYES := Lib.hid hyes
            have HNO := Lib.hid hno
            have HSAME := Lib.hid hsame
            clear hyes hno hsame
            by_cases hk0 : k = 0
            · subst hk0
              rw [show ad.add (0 * 2) = ad from addr_zero ad] at hx0 hx1
              have hne : (x0 != last) = true := by
                have h1 := (wi_iff.1 c1).1
                have h2 : last = -1 := by rw [← HL.out]; rfl
                rw [h2]; simp; omega
              have HNE := Lib.hid hne
              clear hne
              by_cases c4 : all + x1 ≤ 2147483647
              · have C4 := Lib.hid c4
                have c4' : ¬ 2147483647 < all + x1 := by omega
                clear c4
                go_wp2
                go_quiet ((go_at_call 32; exact Calls.quiet_of_same (within32 _ _ _ _)))
                go_wp2
                go_roundw
                case rel => exact ⟨1, all + x1, rfl, rfl, ⟨by omega, by omega, C4.out, HYES.out C4.out HNE.out, blk_drewN (blk_alloc ST.out.hx _) _, HB2.out _⟩⟩
                case measure => simp [intOf]; omega
              · have c4' : 2147483647 < all + x1 := by omega
                have HV := Lib.hid (HNO.out c4)
                clear c4
                go_wp2
                go_quiet ((go_at_call 32; exact Calls.quiet_of_same (within32 _ _ _ _)))
                go_wp2
                go_ret
                exact ⟨by rw [HV.out]; rfl, HB2.out _⟩
            · have hl0 : (rd_T42 l ((k : Int) - 1)).f0 = last := by have := HL.out; rwa [if_neg hk0] at this
              obtain ⟨j, hj⟩ : ∃ j, (k : Int) - 1 = j := ⟨_, rfl⟩
              have j0 : 0 ≤ j := by omega
              have j1 : j < (l.length : Int) := by omega
              have hw : IntKind.i64.wrap ((k : Int) - 1) = j := by rw [hj]; exact IntWalk.i64_in _ (by omega)
              obtain ⟨be, hA2, hy0, hy1⟩ := at_T42 (Kd.C_alloc (Kd.C_below HC.out ST.out.hb) (.cells #[.int .i64 x0, .int .i64 x1] 42)) j j0 j1
              injection hA2 with hA2
              subst hA2
              rw [hj] at hl0
              rw [hl0] at hy0
              clear hl0 hj hy1
              have hkp : decide (0 < k) = true := decide_eq_true (by omega)
              by_cases c3 : (last == x0) = true
              · have HV := Lib.hid (HSAME.out (by simp at c3 ⊢; exact c3.symm))
                go_wp2
                go_quiet ((go_at_call 32; exact Calls.quiet_of_same (within32 _ _ _ _)))
                go_wp2
                go_ret
                exact ⟨by rw [HV.out]; rfl, HB2.out _⟩
              · have c3' : (last == x0) = false := by simpa using c3
                have hne : (x0 != last) = true := by simp at c3 ⊢; exact fun e => c3 e.symm
                have HNE := Lib.hid hne
                clear c3 hne
                by_cases c4 : all + x1 ≤ 2147483647
                · have C4 := Lib.hid c4
                  have c4' : ¬ 2147483647 < all + x1 := by omega
                  clear c4
                  go_wp2
                  go_quiet ((go_at_call 32; exact Calls.quiet_of_same (within32 _ _ _ _)))
                  go_wp2
                  go_roundw
                  case rel => exact ⟨k + 1, all + x1, by go_num, rfl, ⟨by omega, by omega, C4.out, HYES.out C4.out HNE.out, blk_drewN (blk_alloc ST.out.hx _) _, HB2.out _⟩⟩
                  case measure => simp [intOf]; omega
                · have c4' : 2147483647 < all + x1 := by omega
                  have HV := Lib.hid (HNO.out c4)
                  clear c4
                  go_wp2
                  go_quiet ((go_at_call 32; exact Calls.quiet_of_same (within32 _ _ _ _)))
                  go_wp2
                  go_ret
                  exact ⟨by rw [HV.out]; rfl, HB2.out _⟩
          · have c2' : wi x1 1 2147483647 = false := by simpa using c2
            have c2w : wi x1 1 (2147483647 - all) = false := by
              rw [Bool.eq_false_iff]
              intro hh
              have := wi_iff.1 hh
              exact c2 (wi_iff.2 (by omega))
            have hv : chkV (okT l 0 (-1) && endsB o0 o1 o2 o3) = 2 := by rw [HOK.out, c1, c2w]; rfl
            have HV := Lib.hid hv
            clear c2 c2w hv
            go_wp2
            go_quiet ((go_at_call 32; exact Calls.quiet_of_same (within32 _ _ _ _)))
            go_wp2
            go_ret
            exact ⟨by rw [HV.out]; rfl, HB2.out _⟩
        · have c1' : wi x0 0 7 = false := by simpa using c1
          have hv : chkV (okT l 0 (-1) && endsB o0 o1 o2 o3) = 2 := by rw [HOK.out, c1']; rfl
          have HV := Lib.hid hv
          clear c1 hv
          go_wp2
          go_quiet ((go_at_call 32; exact Calls.quiet_of_same (within32 _ _ _ _)))
          go_wp2
          go_ret
          exact ⟨by rw [HV.out]; rfl, HB2.out _⟩
      · have hkk := st.hk
        obtain rfl : k = l.length := by omega
        have hok := st.hok
        rw [List.drop_length] at hok
        have hv : chkV (okT l 0 (-1) && endsB o0 o1 o2 o3) = chkV (endsB o0 o1 o2 o3) := by rw [hok]; rfl
        have z2 : wr.cell? ⟨w.heap.size, 2, none⟩ = _ := blk_cell st.hx 2
        have z3 : wr.cell? ⟨w.heap.size, 3, none⟩ = _ := blk_cell st.hx 3
        have z4 : wr.cell? ⟨w.heap.size, 4, none⟩ = _ := blk_cell st.hx 4
        have z5 : wr.cell? ⟨w.heap.size, 5, none⟩ = _ := blk_cell st.hx 5
        simp at z2 z3 z4 z5
        have hB2 : Below w.heap.size w (wr.alloc (.cells #[.int .i64 o0, .int .i64 o1, .int .i64 o2, .int .i64 o3] 30)) := st.hb.alloc st.hb.size _
        have HB2 := Lib.hid hB2
        have HV0 := Lib.hid hv
        have eqk := eqA30
        clear hok st hB2 hv hkk hlt
        by_cases hk4 : o0 = 4
        · subst hk4
          by_cases c1 : wi o1 1 5 = true
          · by_cases c2 : wi o2 0 7 = true
            · by_cases c3 : wi o3 0 511 = true
              · have HV := Lib.hid (show chkV (okT l 0 (-1) && endsB 4 o1 o2 o3) = 0 by rw [HV0.out]; simp [endsB, c1, c2, c3, chkV])
                go_wp2_with (go_at_call 32; refine (within32 _ _ _ _).mono ?_; rintro e w1 ⟨rfl, rfl⟩)
                go_ret
                exact ⟨by rw [HV.out]; rfl, HB2.out⟩
              · have c3' : wi o3 0 511 = false := by simpa using c3
                have HV := Lib.hid (show chkV (okT l 0 (-1) && endsB 4 o1 o2 o3) = 2 by rw [HV0.out]; simp [endsB, c1, c2, c3', chkV])
                clear c3
                go_wp2_with (go_at_call 32; refine (within32 _ _ _ _).mono ?_; rintro e w1 ⟨rfl, rfl⟩)
                go_ret
                exact ⟨by rw [HV.out]; rfl, HB2.out⟩
            · have c2' : wi o2 0 7 = false := by simpa using c2
              have HV := Lib.hid (show chkV (okT l 0 (-1) && endsB 4 o1 o2 o3) = 2 by rw [HV0.out]; simp [endsB, c1, c2', chkV])
              clear c2
              go_wp2_with (go_at_call 32; refine (within32 _ _ _ _).mono ?_; rintro e w1 ⟨rfl, rfl⟩)
              go_ret
              exact ⟨by rw [HV.out]; rfl, HB2.out⟩
          · have c1' : wi o1 1 5 = false := by simpa using c1
            have HV := Lib.hid (show chkV (okT l 0 (-1) && endsB 4 o1 o2 o3) = 2 by rw [HV0.out]; simp [endsB, c1', chkV])
            clear c1
            go_wp2_with (go_at_call 32; refine (within32 _ _ _ _).mono ?_; rintro e w1 ⟨rfl, rfl⟩)
            go_ret
            exact ⟨by rw [HV.out]; rfl, HB2.out⟩
        · have hk4' : (o0 == 4) = false := by simpa using hk4
          by_cases h1 : 1 ≤ o0
          · by_cases h3 : o0 ≤ 3
            · by_cases hz : (o1 == 0 && (o2 == 0 && o3 == 0)) = true
              · have HV := Lib.hid (show chkV (okT l 0 (-1) && endsB o0 o1 o2 o3) = 0 by rw [HV0.out]; simp only [endsB, if_neg hk4, hz, wi_iff.2 ⟨h1, h3⟩]; rfl)
                clear hk4
                go_wp2_with (go_at_call 32; refine (within32 _ _ _ _).mono ?_; rintro e w1 ⟨rfl, rfl⟩)
                go_ret
                exact ⟨by rw [HV.out]; rfl, HB2.out⟩
              · have hz' : (o1 == 0 && (o2 == 0 && o3 == 0)) = false := by simpa using hz
                have HV := Lib.hid (show chkV (okT l 0 (-1) && endsB o0 o1 o2 o3) = 2 by rw [HV0.out]; simp only [endsB, if_neg hk4, hz', Bool.and_false]; rfl)
                clear hk4 hz
                go_wp2_with (go_at_call 32; refine (within32 _ _ _ _).mono ?_; rintro e w1 ⟨rfl, rfl⟩)
                go_ret
                exact ⟨by rw [HV.out]; rfl, HB2.out⟩
            · have hwi : wi o0 1 3 = false := by rw [Bool.eq_false_iff]; intro hh; have := wi_iff.1 hh; omega
              have HV := Lib.hid (show chkV (okT l 0 (-1) && endsB o0 o1 o2 o3) = 2 by rw [HV0.out]; simp only [endsB, if_neg hk4, hwi, Bool.false_and]; rfl)
              clear hk4 hwi
              go_wp2_with (go_at_call 32; refine (within32 _ _ _ _).mono ?_; rintro e w1 ⟨rfl, rfl⟩)
              go_ret
              exact ⟨by rw [HV.out]; rfl, HB2.out⟩
          · have hwi : wi o0 1 3 = false := by rw [Bool.eq_false_iff]; intro hh; have := wi_iff.1 hh; omega
            have HV := Lib.hid (show chkV (okT l 0 (-1) && endsB o0 o1 o2 o3) = 2 by rw [HV0.out]; simp only [endsB, if_neg hk4, hwi, Bool.false_and]; rfl)
            clear hk4 hwi
            go_wp2_with (go_at_call 32; refine (within32 _ _ _ _).mono ?_; rintro e w1 ⟨rfl, rfl⟩)
            go_ret
            exact ⟨by rw [HV.out]; rfl, HB2.out⟩
  · have hf : okB ⟨h, l, ⟨o0, o1, o2, o3⟩⟩ = false := by simp [okB, hlen]
    rw [hf]
    have hgt : (65536 : Int) < (l.length : Int) := by omega
    clear hf hlen
    go_enter Try.func21, Try.ntmps21
    go_wp2
    go_ret
    exact ⟨rfl, (Below.refl _ w).alloc (Nat.le_refl _) _⟩
end Go.Proofs.Ytlpfjlmeohaagaa
