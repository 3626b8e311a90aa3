/- The walks of TapeJoins, part N: tape.At at step 2 of the known tape. -/
import Derived.Test.YtlpfjlmeohaagaaM
namespace Go.Proofs.Ytlpfjlmeohaagaa
open Go.RowKit Go.Shelf Go.Proofs.Ytlpfjlmeohaagaa.PTapeJoins Go.Proofs.YtlpfjlmeohaagaaW.PrintWords
set_option linter.unusedVariables false
set_option linter.unusedSimpArgs false

def turns0 : List S42 := [⟨0, 2⟩, ⟨1, 1⟩, ⟨0, 1⟩]
def taken0 : S32 := ⟨0, turns0, ⟨2, 0, 0, 0⟩⟩
theorem ok0 : okB taken0 = true := by decide
theorem sum0 : sumW 0 turns0 = 4 := by decide +kernel

set_option maxRecDepth 100000 in
theorem at12 (A : Option Addr) (c : Nat) (w : World) (hF : Kd.F k42 w (fun k => k < w.heap.size) A 3 turns0) (hc : 3 ≤ c) :
    Calls Try.prog 12 #[.agg #[.int .u32 0, .slice A 3 c, .int .i64 2, .int .i64 0, .int .i64 0, .int .i64 0], .int .i64 2] w
      (fun e w' => e = .returned (.tuple #[.int .i64 1, .int .i64 1, .bool true]) ∧ Below w.heap.size w w') := by
  have HF := Lib.hid hF
  have hv : chkV (okB taken0) = 0 := by rw [ok0]; rfl
  clear hF
  go_enter Try.func12, Try.ntmps12
  go_wp2_with fail
  go_at_call 20
  refine (check20 taken0 A c _ (Kd.F_now (Kd.F_alloc HF.out _)) hc).mono ?_
  rw [hv]
  rintro e w1 ⟨rfl, hb1⟩
  obtain ⟨hc1, hf1⟩ := bcell hb1
  have hb := ((Below.refl _ w).alloc (Nat.le_refl _) (.cells #[.int .u32 0, .slice A 3 c, .int .i64 2, .int .i64 0, .int .i64 0, .int .i64 0] 32)).trans (hb1.mono (by simp))
  have HB := Lib.hid hb
  clear hb hb1
  go_wp2_with fail
  go_loopw [7, 20] (fun v7 v20 wr => ∃ j : Int, v20 = .int .i64 j ∧ ((j = 0 ∧ v7 = .int .i64 0) ∨ (j = 1 ∧ v7 = .int .i64 2)) ∧ Below w.heap.size w wr)
    (fun _ v20 _ => 3 - (intOf v20).toNat)
  case atStart => exact ⟨0, rfl, .inl ⟨rfl, rfl⟩, HB.out⟩
  case round =>
    obtain ⟨j, rfl, hk, hb⟩ := hrel
    clear hc1 hf1 HB
    have j0 : 0 ≤ j := by omega
    have j1 : j < 3 := by omega
    have j2 : IntKind.i64.wrap (j + 1) = j + 1 := IntWalk.i64_in _ (by omega)
    obtain ⟨ad, hA, hx0, hx1⟩ := at_T42 (Kd.F_now (F_belowN HF.out hb)) j (by omega) (by exact_mod_cast j1)
    subst hA
    have HB1 := Lib.hid hb
    clear hb
    obtain ⟨hj, rfl⟩ | ⟨hj, rfl⟩ := hk
    · have e : rd_T42 turns0 j = ⟨0, 2⟩ := by rw [hj]; rfl
      rw [e] at hx0 hx1
      have HJ := Lib.hid hj
      clear hj e
      go_wp2_with fail
      go_roundw
      case rel => exact ⟨j + 1, by go_num, .inr ⟨by rw [HJ.out]; rfl, by go_num⟩, by first | exact HB1.out | exact HB1.out.alloc HB1.out.size _⟩
      case measure => simp [intOf]; omega
    · have e : rd_T42 turns0 j = ⟨1, 1⟩ := by rw [hj]; rfl
      rw [e] at hx0 hx1
      have HJ := Lib.hid hj
      clear hj e
      go_wp2_with fail
      go_ret3
      exact ⟨by rw [HJ.out]; rfl, by first | exact HB1.out | exact HB1.out.alloc HB1.out.size _⟩
end Go.Proofs.Ytlpfjlmeohaagaa
