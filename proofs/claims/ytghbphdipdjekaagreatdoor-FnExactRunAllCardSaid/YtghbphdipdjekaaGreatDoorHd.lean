/- The statements' own look whether the marks are still there (laws.heldThingS and what it calls). Conditions: what is looked at is marked so. -/
import Derived.Test.YtghbphdipdjekaaGreatDoorMk
set_option linter.unusedVariables false
set_option linter.unusedSimpArgs false
namespace Go.Proofs.YtghbphdipdjekaaGreatDoor
open Go.RowKit Drw
attribute [local go_sem] Lab.val Rgt.val Cal.val Thg.val

set_option maxRecDepth 100000 in
set_option maxHeartbeats 2000000 in
theorem heldIntS_c {v : Value} (n : Nat) (k : Int) (w : World) (h : IntsAt w v (mkIs k n)) (hk0 : 0 ≤ k) (hk : k ≤ 35184372088832) (hl : n ≤ 1048576) :
    Calls Tryz.prog 47 #[v, .int .i64 k] w fun e w' => e = .returned (.int .i64 (k + (n : Int))) ∧ Below w.heap.size w w' := by
  obtain ⟨p, cap, rfl, h1, h2⟩ := h.len
  rw [mkIs_len] at h1 h ⊢
  unfold maxLen at h2
  have H := Lib.hid h
  clear h
  go_enter Tryz.func47, Tryz.ntmps47
  go_wp2
  go_loopw [1, 5] (fun s1 s5 wr => ∃ (j : Nat) (K : Int), s5 = .int .i64 (j : Int) ∧ j ≤ n ∧ s1 = .int .i64 K ∧ K = k + (j : Int) ∧ Below w.heap.size w wr) (fun _ s5 _ => n - (intOf s5).toNat)
  case atStart => exact ⟨0, k, rfl, by omega, rfl, by simp, Below.refl _ _⟩
  case round =>
    obtain ⟨j, K, rfl, hj, rfl, hK, hB⟩ := hrel
    have HK := Lib.hid hK
    have HB := Lib.hid hB
    by_cases hlt : j < n
    · have h0 : (0 : Int) ≤ (j : Int) := by omega
      have hin : (j : Int) < (n : Int) := by omega
      have hK0 : 0 ≤ K := by omega
      have hK1 : K ≤ 35184377331712 := by omega
      have hx := mkIs_at n k j hlt
      rw [← hK] at hx
      obtain ⟨b, o, rfl, hb, c0⟩ := (H.out.pure hB).at j _ hx
      have w1 : IntKind.i64.wrap (K + 1) = K + 1 := IntWalk.i64_in _ (by omega)
      clear hK hx hB
      go_wp2
      refine ⟨⟨j + 1, K + 1, by go_num, by omega, rfl, by have := HK.out; omega, HB.out⟩, by simp [intOf]; omega⟩
    · obtain rfl : j = n := by omega
      clear hK hB
      go_wp2
      go_ret
      exact ⟨by rw [HK.out]; rfl, HB.out⟩

set_option maxRecDepth 100000 in
set_option maxHeartbeats 4000000 in
theorem heldRightS_c {v : Value} (n : Nat) (k : Int) (w : World) (h : RgtsAt w v (mkRs k n)) (hk0 : 0 ≤ k) (hk : k ≤ 35184372088832) (hl : n ≤ 1048576) :
    Calls Tryz.prog 88 #[v, .int .i64 k] w fun e w' => e = .returned (.int .i64 (k + 5 * (n : Int))) ∧ Below w.heap.size w w' := by
  obtain ⟨p, cap, rfl, h1, h2⟩ := h.len
  rw [mkRs_len] at h1 h ⊢
  unfold maxLen at h2
  have H := Lib.hid h
  clear h
  go_enter Tryz.func88, Tryz.ntmps88
  go_wp2
  go_loopw [1, 5] (fun s1 s5 wr => ∃ (j : Nat) (K : Int), s5 = .int .i64 (j : Int) ∧ j ≤ n ∧ s1 = .int .i64 K ∧ K = k + 5 * (j : Int) ∧ Below w.heap.size w wr) (fun _ s5 _ => n - (intOf s5).toNat)
  case atStart => exact ⟨0, k, rfl, by omega, rfl, by simp, Below.refl _ _⟩
  case round =>
    obtain ⟨j, K, rfl, hj, rfl, hK, hB⟩ := hrel
    have HK := Lib.hid hK
    have HB := Lib.hid hB
    by_cases hlt : j < n
    · have h0 : (0 : Int) ≤ (j : Int) := by omega
      have hin : (j : Int) < (n : Int) := by omega
      have hK0 : 0 ≤ K := by omega
      have hK1 : K ≤ 35184377331712 := by omega
      have hx := mkRs_at n k j hlt
      rw [← hK] at hx
      obtain ⟨b, o, rfl, hb, c0, c1, c2, c3, c4⟩ := (H.out.pure hB).at j _ hx
      dsimp only [mkR] at c0 c1 c2 c3 c4
      have w1 : IntKind.i64.wrap (K + 1) = K + 1 := IntWalk.i64_in _ (by omega)
      have w2 : IntKind.i64.wrap (K + 1 + 1) = K + 2 := by rw [IntWalk.i64_in _ (by omega)]; omega
      have w3 : IntKind.i64.wrap (K + 2 + 1) = K + 3 := by rw [IntWalk.i64_in _ (by omega)]; omega
      have w4 : IntKind.i64.wrap (K + 3 + 1) = K + 4 := by rw [IntWalk.i64_in _ (by omega)]; omega
      have w5 : IntKind.i64.wrap (K + 4 + 1) = K + 5 := by rw [IntWalk.i64_in _ (by omega)]; omega
      clear hK hx hB
      go_wp2
      refine ⟨⟨j + 1, K + 5, by go_num, by omega, rfl, by have := HK.out; omega, HB.out⟩, by simp [intOf]; omega⟩
    · obtain rfl : j = n := by omega
      clear hK hB
      go_wp2
      go_ret
      exact ⟨by rw [HK.out]; rfl, HB.out⟩

set_option maxRecDepth 100000 in
set_option maxHeartbeats 4000000 in
theorem heldThingS_c {p : Option Addr} {cap : Nat} {ts : List Thg} (k : Int) (w : World) (hT : TabAt w (.slice p ts.length cap) (mkTs k ts)) (hk0 : 0 ≤ k) (hk : k ≤ 1048576)
    (hn : ts.length ≤ 1048576) (hS : ∀ t ∈ ts, t.slots.length ≤ 1048576 ∧ t.queue.length ≤ 1048576) :
    Calls Tryz.prog 44 #[.slice p ts.length cap, .int .i64 k] w fun e w' => e = .returned (.int .i64 (nxTs k ts)) ∧ Below w.heap.size w w' := by
  have HT := Lib.hid hT
  have HS := Lib.hid hS
  clear hT hS
  go_enter Tryz.func44, Tryz.ntmps44
  go_wp2
  go_loopw [1, 5] (fun s1 s5 wr => ∃ (j : Nat) (K : Int), s5 = .int .i64 (j : Int) ∧ j ≤ ts.length ∧ s1 = .int .i64 K ∧ K = nxTs k (ts.take j) ∧ Below w.heap.size w wr) (fun _ s5 _ => ts.length - (intOf s5).toNat)
  case atStart => exact ⟨0, k, rfl, by omega, rfl, by simp [nxTs], Below.refl _ _⟩
  case round =>
    obtain ⟨j, K, rfl, hj, rfl, hK, hB⟩ := hrel
    have HK := Lib.hid hK
    have HB := Lib.hid hB
    have hzr := hB.size
    by_cases hlt : j < ts.length
    · have h0 : (0 : Int) ≤ (j : Int) := by omega
      have hin : (j : Int) < (ts.length : Int) := by omega
      have hb := nxTs_bd (ts.take j) k (fun t ht => HS.out t (List.mem_of_mem_take ht))
      have hK0 : 0 ≤ K := by omega
      have hK1 : K ≤ 8796093022208 := by rw [hK]; have : (ts.take j).length ≤ 1048576 := by simp; omega
                                         omega
      obtain ⟨t, htj⟩ : ∃ x, ts[j]? = some x := ⟨_, List.getElem?_eq_getElem hlt⟩
      obtain ⟨hs1, hs2⟩ := HS.out t (List.mem_of_getElem? htj)
      have hx := mkTs_at ts k j t htj
      rw [← hK] at hx
      obtain ⟨b, o, sv, qv, rfl, hbk, hS, hQ, c0, c1, c2, c3, c4, c5, c6, c7⟩ := (HT.out.pure hB).at j _ hx
      dsimp only [mkT] at hS hQ c0 c1 c2 c3 c4 c7
      have Htj := Lib.hid htj
      have w1 : IntKind.i64.wrap (K + 1) = K + 1 := IntWalk.i64_in _ (by omega)
      have w2 : IntKind.i64.wrap (K + 1 + 1) = K + 2 := by rw [IntWalk.i64_in _ (by omega)]; omega
      have w3 : IntKind.i64.wrap (K + 2 + 1) = K + 3 := by rw [IntWalk.i64_in _ (by omega)]; omega
      have w4 : IntKind.i64.wrap (K + 3 + 1) = K + 4 := by rw [IntWalk.i64_in _ (by omega)]; omega
      have w5 : IntKind.i64.wrap (K + 4 + 1) = K + 5 := by rw [IntWalk.i64_in _ (by omega)]; omega
      have w6 : IntKind.i64.wrap (K + 5 + 5 * (t.slots.length : Int) + (t.queue.length : Int) + 1) = K + 5 + 5 * (t.slots.length : Int) + (t.queue.length : Int) + 1 := IntWalk.i64_in _ (by omega)
      have n1 : ¬ (K + 5 + 5 * (t.slots.length : Int) < 0) := by omega
      have n2 : ¬ (K + 5 + 5 * (t.slots.length : Int) + (t.queue.length : Int) < 0) := by omega
      have HC := Lib.hid (show ∀ w' : World, Below wr.heap.size wr w' → (w'.cell? ⟨b, o + j * 8 + 6, none⟩ = some qv ∧ w'.cell? ⟨b, o + j * 8 + 7, none⟩ = some (.int .i64 (K + 5 + 5 * (t.slots.length : Int) + (t.queue.length : Int)))) from fun w' h => ⟨(h.cell hbk).trans c6, (h.cell hbk).trans c7⟩)
      clear hK hx hB htj hb
      go_wp2_with (first
        | (go_at_call 88; refine (heldRightS_c t.slots.length (K + 5) _ hS (by omega) (by omega) hs1).mono ?_; rintro e wA ⟨rfl, hbA⟩; obtain ⟨d6, d7⟩ := HC.out _ hbA; have HbA := Lib.hid hbA; have hzA := hbA.size; clear hbA c6 c7)
        | (go_at_call 47; refine (heldIntS_c t.queue.length (K + 5 + 5 * (t.slots.length : Int)) _ (hQ.pure HbA.out) (by omega) (by omega) hs2).mono ?_; rintro e wB ⟨rfl, hbB⟩; have HbB := Lib.hid (HbA.out.trans (hbB.mono hzA)); obtain ⟨f6, f7⟩ := HC.out _ HbB.out; clear hbB d6 d7))
      refine ⟨⟨j + 1, _, by go_num, by omega, rfl, by rw [nxTs_next ts k j t Htj.out, ← HK.out]; rfl, HB.out.trans (HbB.out.mono hzr)⟩, by simp [intOf]; omega⟩
    · obtain rfl : j = ts.length := by omega
      clear hK hB
      go_wp2
      go_ret
      exact ⟨by rw [HK.out, List.take_length]; rfl, HB.out⟩

end Go.Proofs.YtghbphdipdjekaaGreatDoor
