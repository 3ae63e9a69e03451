/- The statements' own look whether the marks are still there (laws.heldThingS and what it calls). Conditions: what is looked at is marked so. -/
import Derived.Test.YtiolplhgpodifaaGreatMk
set_option linter.unusedVariables false
set_option linter.unusedSimpArgs false
namespace Go.Proofs.YtiolplhgpodifaaGreat
open Go.RowKit Drw
attribute [local go_sem] Lab.val Rgt.val Cal.val Thg.val

set_option maxRecDepth 100000 in
set_option maxHeartbeats 4000000 in
theorem heldRightS_c {v : Value} (n : Nat) (k : Int) (w : World) (h : RgtsAt w v (mkRs k n)) (hk0 : 0 ≤ k) (hk : k ≤ 35184372088832) (hl : n ≤ 1048576) :
    Calls Tryz.prog 55 #[v, .int .i64 k] w fun e w' => e = .returned (.int .i64 (k + 5 * (n : Int))) ∧ Below w.heap.size w w' := by
  obtain ⟨p, cap, rfl, h1, h2⟩ := h.len
  rw [mkRs_len] at h1 h ⊢
  unfold maxLen at h2
  have H := Lib.hid h
  clear h
  go_enter Tryz.func55, Tryz.ntmps55
  go_wp2
  go_loopw [1, 5] (fun s1 s5 wr => ∃ (j : Nat) (K : Int), s5 = .int .i64 (j : Int) ∧ j ≤ n ∧ s1 = .int .i64 K ∧ K = k + 5 * (j : Int) ∧ Below w.heap.size w wr) (fun _ s5 _ => n - (intOf s5).toNat)
  case atStart => exact ⟨0, k, rfl, by omega, rfl, by simp, Below.refl _ _⟩
  case round =>
    obtain ⟨j, K, rfl, hj, rfl, hK, hB⟩ := hrel
    have HK := Lib.hid hK
    have HB := Lib.hid hB
    by_cases hlt : j < n
    · have h0 : (0 : Int) ≤ (j : Int) := by omega
      have hin : (j : Int) < (n : Int) := by omega
      have hK0 : 0 ≤ K := by omega
      have hK1 : K ≤ 35184377331712 := by omega
      have hx := mkRs_at n k j hlt
      rw [← hK] at hx
      obtain ⟨b, o, rfl, hb, c0, c1, c2, c3, c4⟩ := (H.out.pure hB).at j _ hx
      dsimp only [mkR] at c0 c1 c2 c3 c4
      have w1 : IntKind.i64.wrap (K + 1) = K + 1 := IntWalk.i64_in _ (by omega)
      have w2 : IntKind.i64.wrap (K + 1 + 1) = K + 2 := by rw [IntWalk.i64_in _ (by omega)]; omega
      have w3 : IntKind.i64.wrap (K + 2 + 1) = K + 3 := by rw [IntWalk.i64_in _ (by omega)]; omega
      have w4 : IntKind.i64.wrap (K + 3 + 1) = K + 4 := by rw [IntWalk.i64_in _ (by omega)]; omega
      have w5 : IntKind.i64.wrap (K + 4 + 1) = K + 5 := by rw [IntWalk.i64_in _ (by omega)]; omega
      clear hK hx hB
      go_wp2
      refine ⟨⟨j + 1, K + 5, by go_num, by omega, rfl, by have := HK.out; omega, HB.out⟩, by simp [intOf]; omega⟩
    · obtain rfl : j = n := by omega
      clear hK hB
      go_wp2
      go_ret
      exact ⟨by rw [HK.out]; rfl, HB.out⟩

end Go.Proofs.YtiolplhgpodifaaGreat
