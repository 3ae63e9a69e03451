/- The reference's line of a thing. Conditions: the thing lies where its cells say, and is one. -/
import Derived.Test.YtghbphdipdjekaaGreatDoorTh
import Derived.Test.YtghbphdipdjekaaGreatDoorBase
import Derived.Test.YtghbphdipdjekaaGreatDoorIv
import Derived.Test.YtghbphdipdjekaaGreatDoorDo
set_option linter.unusedVariables false
set_option linter.unusedSimpArgs false
namespace Go.Proofs.YtghbphdipdjekaaGreatDoor
open Go.RowKit Drw
attribute [local go_sem] Lab.val Rgt.val Cal.val Thg.val

/-- The six names of kinds, as cells. -/
def six : Array Value := #[.string ⟨#[]⟩, .string ⟨#[112, 97, 103, 101]⟩, .string ⟨#[110, 111, 100, 101]⟩, .string ⟨#[114, 117, 110]⟩, .string ⟨#[112, 105, 112, 101]⟩, .string ⟨#[103, 97, 116, 101]⟩]
def KindAt (w : World) (v : Value) (kk : Nat) (kt : ByteArray) : Prop := ∃ b, v = .slice (some ⟨b, 0, none⟩) 6 6 ∧ b < w.heap.size ∧ w.cell? ⟨b, kk, none⟩ = some (.string kt)
theorem KindAt.ext {w w' : World} {v : Value} {kk : Nat} {kt : ByteArray} (h : KindAt w v kk kt) (hg : Below w.heap.size w w') : KindAt w' v kk kt := by
  obtain ⟨b, e, hb, hc⟩ := h
  exact ⟨b, e, Nat.lt_of_lt_of_le hb hg.size, ((bcell hg).1 _ _ hb).trans hc⟩
theorem KindAt.made {kk : Nat} {kt : ByteArray} (h : six[kk]? = some (.string kt)) (w : World) (t : TypeId) : KindAt (w.alloc (.cells six t)) (.slice (some ⟨w.heap.size, 0, none⟩) 6 6) kk kt :=
  ⟨_, rfl, by simp, by rw [World.cell?_alloc_new]; exact h⟩
def StrAt (w : World) (v : Value) (s : ByteArray) : Prop := ∃ b o, v = .pointer (some ⟨b, o, none⟩) ∧ b < w.heap.size ∧ w.cell? ⟨b, o, none⟩ = some (.string s)
theorem StrAt.ext {w w' : World} {v : Value} {s : ByteArray} (h : StrAt w v s) (hg : Below w.heap.size w w') : StrAt w' v s := by
  obtain ⟨b, o, e, hb, hc⟩ := h
  exact ⟨b, o, e, Nat.lt_of_lt_of_le hb hg.size, ((bcell hg).1 _ _ hb).trans hc⟩
theorem six_kind {kk : Nat} (h : 1 ≤ (kk : Int) ∧ (kk : Int) ≤ 5) : six[kk]? = some (.string (bs (kindTxt kk))) := by
  have : kk = 1 ∨ kk = 2 ∨ kk = 3 ∨ kk = 4 ∨ kk = 5 := by omega
  rcases this with rfl | rfl | rfl | rfl | rfl <;> rfl
theorem kind_len (k : Int) : (kindTxt k).length ≤ 4 := by
  unfold kindTxt
  repeat' split
  all_goals simp
theorem rgtTxt_len (r : Rgt) : (rgtTxt r).length ≤ 6 := by unfold rgtTxt; split <;> simp
theorem slotsTxt_len : ∀ rs : List Rgt, (slotsTxt rs).length ≤ 7 * rs.length
  | [] => by simp [slotsTxt]
  | r :: rs => by
    have h1 := slotsTxt_len rs
    have h2 := rgtTxt_len r
    have e : slotsTxt (r :: rs) = 32 :: rgtTxt r ++ slotsTxt rs := rfl
    rw [e]
    simp
    omega
theorem queueTxt_len : ∀ q : List Int, (queueTxt q).length ≤ 4 * q.length
  | [] => by simp [queueTxt]
  | n :: q => by
    have h1 := queueTxt_len q
    have h2 := dec_len n
    have e : queueTxt (n :: q) = 32 :: 60 :: dec n ++ queueTxt q := rfl
    rw [e]
    simp
    omega
theorem slotsTxt_next {rs : List Rgt} {i : Nat} {r : Rgt} (h : rs[i]? = some r) : slotsTxt (rs.take (i + 1)) = slotsTxt (rs.take i) ++ 32 :: rgtTxt r := by
  rw [List.take_add_one, h]
  simp [slotsTxt]
theorem queueTxt_next {q : List Int} {i : Nat} {n : Int} (h : q[i]? = some n) : queueTxt (q.take (i + 1)) = queueTxt (q.take i) ++ 32 :: 60 :: dec n := by
  rw [List.take_add_one, h]
  simp [queueTxt]

structure L3I (B kk : Nat) (ls lv ve nu : Int) (kt u1 u2 u3 u4 u5 u6 : ByteArray) (w0 : World) (d : Nat → Bool) (w : World) (v3 v6 v7 v8 v9 v10 v11 v12 v13 v14 v15 v16 v17 v18 v19 v20 v21 v22 v23 v24 v25 : Value) : Prop where
  chg : Below w0.heap.size w0 w
  p0 : d 0 = true → KindAt w v6 kk kt
  p1 : d 1 = true → v7 = .pointer (some ⟨B, 0, none⟩)
  p2 : d 2 = true → v8 = .int .i64 (kk : Int)
  p3 : d 3 = true → StrAt w v9 kt
  p4 : d 4 = true → v10 = .string kt
  p5 : d 5 = true → v11 = .string u1
  p6 : d 6 = true → v12 = .pointer (some ⟨B, 1, none⟩)
  p7 : d 7 = true → v13 = .agg #[.int .i64 ls, .int .i64 lv]
  p8 : d 8 = true → v14 = .string (bs (labTxt ⟨ls, lv⟩))
  p9 : d 9 = true → v15 = .string u2
  p10 : d 10 = true → v16 = .string u3
  p11 : d 11 = true → v17 = .pointer (some ⟨B, 3, none⟩)
  p12 : d 12 = true → v18 = .int .i64 ve
  p13 : d 13 = true → v19 = .string (bs (dec ve))
  p14 : d 14 = true → v20 = .string u4
  p15 : d 15 = true → v21 = .string u5
  p16 : d 16 = true → v22 = .pointer (some ⟨B, 4, none⟩)
  p17 : d 17 = true → v23 = .int .i64 nu
  p18 : d 18 = true → v24 = .string (bs (dec nu))
  p19 : d 19 = true → v25 = .string u6
  p20 : d 20 = true → v3 = .string u6

set_option maxRecDepth 100000 in
set_option maxHeartbeats 4000000 in
theorem l3Thing_c (t : Thg) (sva qva : Value) (w : World) (ht : thgOk t = true) (hs : RgtsAt w sva t.slots) (hq : IntsAt w qva t.queue) :
    Calls Tryz.prog 79 #[t.val sva qva] w fun e w' => e = .returned (.string (bs (thgTxt t))) ∧ Below w.heap.size w w' := by
  have tb := thgB ht
  have hqu3 : t.kind = 4 → t.queue.length ≤ 3 := fun h4 => (queue_bd ht).1
  clear ht
  obtain ⟨kd, ⟨ls, lv⟩, ve, nu, sl, qu, tg⟩ := t
  obtain ⟨b1, b2, b3, b4, b5, b6, b7, b8, b9⟩ := tb
  dsimp only at b1 b2 b3 b4 b5 b6 b7 b8 b9 hs hq hqu3
  dsimp only [Thg.val]
  obtain ⟨kk, rfl⟩ : ∃ n : Nat, kd = (n : Int) := ⟨kd.toNat, by omega⟩
  obtain ⟨ps, cs, rfl, hls, hms⟩ := hs.len
  obtain ⟨pq, cq, rfl, hlq, hmq⟩ := hq.len
  unfold maxLen at hms hmq
  have hsl4 : sl.length ≤ 4 := by rw [b5]; split <;> omega
  have Hlab := Lib.hid b2
  have Hrg := Lib.hid b6
  have Hnm := Lib.hid b8
  have Hto := Lib.hid b9
  have Hq4 := Lib.hid b7
  have Hs := Lib.hid hs
  have Hq := Lib.hid hq
  have hve0 : -4 ≤ ve := by omega
  have hve1 : ve ≤ 99 := by omega
  have hnu0 : -4 ≤ nu := b4.1
  have hnu1 : nu ≤ 99 := b4.2
  have hkt := six_kind b1
  obtain ⟨kt, ekt⟩ : ∃ s, bs (kindTxt kk) = s := ⟨_, rfl⟩
  rw [ekt] at hkt
  have k1 := kind_len kk
  have k2 := dec_len ve
  have k3 := dec_len nu
  have k4 : (labTxt ⟨ls, lv⟩).length = 3 := rfl
  obtain ⟨tx1, e1, c1⟩ := add_ex Tryz.prog ekt.symm (show (⟨#[32]⟩ : ByteArray) = bs [32] from rfl) (by simp; omega)
  obtain ⟨tx2, e2, c2⟩ := add_ex Tryz.prog e1 (show bs (labTxt ⟨ls, lv⟩) = _ from rfl) (by simp [k4]; omega)
  obtain ⟨tx3, e3, c3⟩ := add_ex Tryz.prog e2 (show (⟨#[32]⟩ : ByteArray) = bs [32] from rfl) (by simp [k4]; omega)
  obtain ⟨tx4, e4, c4⟩ := add_ex Tryz.prog e3 (show bs (dec ve) = _ from rfl) (by simp [k4]; omega)
  obtain ⟨tx5, e5, c5⟩ := add_ex Tryz.prog e4 (show (⟨#[32]⟩ : ByteArray) = bs [32] from rfl) (by simp [k4]; omega)
  obtain ⟨tx6, e6, c6⟩ := add_ex Tryz.prog e5 (show bs (dec nu) = _ from rfl) (by simp [k4]; omega)
  obtain ⟨pre, hpre⟩ : ∃ l, (((((kindTxt kk ++ [32]) ++ labTxt ⟨ls, lv⟩) ++ [32]) ++ dec ve) ++ [32]) ++ dec nu = l := ⟨_, rfl⟩
  rw [hpre] at e6
  have hpl : pre.length ≤ 20 := by rw [← hpre]; simp [k4]; omega
  have E6 := Lib.hid e6
  have Hpre := Lib.hid (show thgTxt ⟨kk, ⟨ls, lv⟩, ve, nu, sl, qu, tg⟩ = pre ++ slotsTxt sl ++ queueTxt qu ++ toTxt ⟨kk, ⟨ls, lv⟩, ve, nu, sl, qu, tg⟩ ++ [10] by rw [← hpre]; simp [thgTxt])
  have h0k : (0 : Int) ≤ (kk : Int) := by omega
  have hk6 : (kk : Int) < 6 := by omega
  clear e1 e2 e3 e4 e5 e6 ekt k1 k2 k3 k4 hpre b2 b3 b4 b5 b6 b7 b8 b9 hs hq
  go_enter Tryz.func79, Tryz.ntmps79
  go_upto_region 1 with (fail)
  generalize hwa : World.alloc _ _ = wa
  have hBa : Below w.heap.size w wa := by rw [← hwa]; exact (by (repeat (with_reducible first | exact Below.refl _ _ | refine Below.alloc ?_ ?_ _ | refine below_drewN ?_ _ | refine Below.drew ?_ | refine Below.setCell ?_ ?_ _ | refine Below.trans ?_ (Below.mono (by assumption) ?_))) <;> (first | omega | (simp; try omega)))
  have hza : w.heap.size < wa.heap.size := by rw [← hwa]; simp
  have g0 : wa.cell? ⟨w.heap.size, 0, none⟩ = some (.int .i64 (kk : Int)) := by rw [← hwa]; simp [go_sem]
  have g1 : wa.cell? ⟨w.heap.size, 1, none⟩ = some (.int .i64 ls) := by rw [← hwa]; simp [go_sem]
  have g2 : wa.cell? ⟨w.heap.size, 2, none⟩ = some (.int .i64 lv) := by rw [← hwa]; simp [go_sem]
  have g3 : wa.cell? ⟨w.heap.size, 3, none⟩ = some (.int .i64 ve) := by rw [← hwa]; simp [go_sem]
  have g4 : wa.cell? ⟨w.heap.size, 4, none⟩ = some (.int .i64 nu) := by rw [← hwa]; simp [go_sem]
  have g5 : wa.cell? ⟨w.heap.size, 5, none⟩ = some (.slice ps sl.length cs) := by rw [← hwa]; simp [go_sem]
  have g6 : wa.cell? ⟨w.heap.size, 6, none⟩ = some (.slice pq qu.length cq) := by rw [← hwa]; simp [go_sem]
  have g7 : wa.cell? ⟨w.heap.size, 7, none⟩ = some (.int .i64 tg) := by rw [← hwa]; simp [go_sem]
  have HS := Lib.hid (show ∀ w' : World, Below wa.heap.size wa w' → (Below wa.heap.size wa w' ∧ w'.cell? ⟨w.heap.size, 0, none⟩ = some (.int .i64 (kk : Int)) ∧ w'.cell? ⟨w.heap.size, 1, none⟩ = some (.int .i64 ls) ∧ w'.cell? ⟨w.heap.size, 2, none⟩ = some (.int .i64 lv) ∧ w'.cell? ⟨w.heap.size, 3, none⟩ = some (.int .i64 ve) ∧ w'.cell? ⟨w.heap.size, 4, none⟩ = some (.int .i64 nu)) from fun w' h => by
    obtain ⟨hc', -⟩ := bcell h
    exact ⟨h, (hc' _ _ hza).trans g0, (hc' _ _ hza).trans g1, (hc' _ _ hza).trans g2, (hc' _ _ hza).trans g3, (hc' _ _ hza).trans g4⟩)
  have HS2 := Lib.hid (show ∀ w' : World, Below wa.heap.size wa w' → (w'.cell? ⟨w.heap.size, 5, none⟩ = some (.slice ps sl.length cs) ∧ w'.cell? ⟨w.heap.size, 6, none⟩ = some (.slice pq qu.length cq) ∧ w'.cell? ⟨w.heap.size, 7, none⟩ = some (.int .i64 tg) ∧ w'.cell? ⟨w.heap.size, 0, none⟩ = some (.int .i64 (kk : Int))) from fun w' h => by
    obtain ⟨hc', -⟩ := bcell h
    exact ⟨(hc' _ _ hza).trans g5, (hc' _ _ hza).trans g6, (hc' _ _ hza).trans g7, (hc' _ _ hza).trans g0⟩)
  have Hs1 := Lib.hid (Hs.out.pure hBa)
  have Hq1 := Lib.hid (Hq.out.pure hBa)
  have HBa := Lib.hid hBa
  clear hwa g0 g1 g2 g3 g4 g5 g6 g7 Hs Hq hBa
  go_cut [3] (fun s3 wz => s3 = .string tx6 ∧ Below wa.heap.size wa wz)
  case first =>
    refine wp_region_inv (fun d a w' => ∃ v3 v6 v7 v8 v9 v10 v11 v12 v13 v14 v15 v16 v17 v18 v19 v20 v21 v22 v23 v24 v25, a = { tmps := #[.agg #[.int .i64 (kk : Int), .int .i64 ls, .int .i64 lv, .int .i64 ve, .int .i64 nu, .slice ps sl.length cs, .slice pq qu.length cq, .int .i64 tg], .pointer (some ⟨w.heap.size, 0, none⟩), .string ⟨#[]⟩, v3, undef, undef, v6, v7, v8, v9, v10, v11, v12, v13, v14, v15, v16, v17, v18, v19, v20, v21, v22, v23, v24, v25, undef, undef, undef, undef, undef, undef, undef, undef, undef, undef, undef, undef, undef, undef, undef, undef, undef, undef, undef, undef, undef, undef, undef, undef, undef, undef, undef, undef, undef, undef, undef, undef, undef, undef, undef, undef, undef, undef, undef, undef, undef, undef, undef], defers := [] } ∧ L3I w.heap.size kk ls lv ve nu kt tx1 tx2 tx3 tx4 tx5 tx6 wa d w' v3 v6 v7 v8 v9 v10 v11 v12 v13 v14 v15 v16 v17 v18 v19 v20 v21 v22 v23 v24 v25) (by kernel_rfl) (by kernel_rfl) ?_ ?_ ?_
    · refine ⟨_, _, _, _, _, _, _, _, _, _, _, _, _, _, _, _, _, _, _, _, _, rfl, ?_⟩
      constructor
      · exact Below.drew (Below.refl _ _)
      all_goals (intro hj; exact absurd hj (by decide))
    · refine ⟨?_, ?_, ?_, ?_, ?_, ?_, ?_, ?_, ?_, ?_, ?_, ?_, ?_, ?_, ?_, ?_, ?_, ?_, ?_, ?_, ?_, trivial⟩
      · rintro d a w' hd hdep ⟨v3, v6, v7, v8, v9, v10, v11, v12, v13, v14, v15, v16, v17, v18, v19, v20, v21, v22, v23, v24, v25, rfl, H⟩ K hK
        clear hdep
        go_simp
        have hg : Below w'.heap.size w' (w'.alloc (.cells six 9)) := (by (repeat (with_reducible first | exact Below.refl _ _ | refine Below.alloc ?_ ?_ _ | refine below_drewN ?_ _ | refine Below.drew ?_ | refine Below.setCell ?_ ?_ _ | refine Below.trans ?_ (Below.mono (by assumption) ?_))) <;> (first | omega | (simp; try omega)))
        refine hK _ _ ⟨_, _, _, _, _, _, _, _, _, _, _, _, _, _, _, _, _, _, _, _, _, rfl, ?_⟩
        constructor
        · exact H.chg.trans (hg.mono H.chg.size)
        · intro _; exact KindAt.made hkt _ _
        · intro hj; have h := H.p1 (by simpa using hj); exact h
        · intro hj; have h := H.p2 (by simpa using hj); exact h
        · intro hj; have h := H.p3 (by simpa using hj); exact h.ext hg
        · intro hj; have h := H.p4 (by simpa using hj); exact h
        · intro hj; have h := H.p5 (by simpa using hj); exact h
        · intro hj; have h := H.p6 (by simpa using hj); exact h
        · intro hj; have h := H.p7 (by simpa using hj); exact h
        · intro hj; have h := H.p8 (by simpa using hj); exact h
        · intro hj; have h := H.p9 (by simpa using hj); exact h
        · intro hj; have h := H.p10 (by simpa using hj); exact h
        · intro hj; have h := H.p11 (by simpa using hj); exact h
        · intro hj; have h := H.p12 (by simpa using hj); exact h
        · intro hj; have h := H.p13 (by simpa using hj); exact h
        · intro hj; have h := H.p14 (by simpa using hj); exact h
        · intro hj; have h := H.p15 (by simpa using hj); exact h
        · intro hj; have h := H.p16 (by simpa using hj); exact h
        · intro hj; have h := H.p17 (by simpa using hj); exact h
        · intro hj; have h := H.p18 (by simpa using hj); exact h
        · intro hj; have h := H.p19 (by simpa using hj); exact h
        · intro hj; have h := H.p20 (by simpa using hj); exact h
      · rintro d a w' hd hdep ⟨v3, v6, v7, v8, v9, v10, v11, v12, v13, v14, v15, v16, v17, v18, v19, v20, v21, v22, v23, v24, v25, rfl, H⟩ K hK
        clear hdep
        go_simp
        have hg : Below w'.heap.size w' w' := Below.refl _ _
        refine hK _ _ ⟨_, _, _, _, _, _, _, _, _, _, _, _, _, _, _, _, _, _, _, _, _, rfl, ?_⟩
        constructor
        · exact H.chg.trans (hg.mono H.chg.size)
        · intro hj; have h := H.p0 (by simpa using hj); exact h.ext hg
        · intro _; exact rfl
        · intro hj; have h := H.p2 (by simpa using hj); exact h
        · intro hj; have h := H.p3 (by simpa using hj); exact h.ext hg
        · intro hj; have h := H.p4 (by simpa using hj); exact h
        · intro hj; have h := H.p5 (by simpa using hj); exact h
        · intro hj; have h := H.p6 (by simpa using hj); exact h
        · intro hj; have h := H.p7 (by simpa using hj); exact h
        · intro hj; have h := H.p8 (by simpa using hj); exact h
        · intro hj; have h := H.p9 (by simpa using hj); exact h
        · intro hj; have h := H.p10 (by simpa using hj); exact h
        · intro hj; have h := H.p11 (by simpa using hj); exact h
        · intro hj; have h := H.p12 (by simpa using hj); exact h
        · intro hj; have h := H.p13 (by simpa using hj); exact h
        · intro hj; have h := H.p14 (by simpa using hj); exact h
        · intro hj; have h := H.p15 (by simpa using hj); exact h
        · intro hj; have h := H.p16 (by simpa using hj); exact h
        · intro hj; have h := H.p17 (by simpa using hj); exact h
        · intro hj; have h := H.p18 (by simpa using hj); exact h
        · intro hj; have h := H.p19 (by simpa using hj); exact h
        · intro hj; have h := H.p20 (by simpa using hj); exact h
      · rintro d a w' hd hdep ⟨v3, v6, v7, v8, v9, v10, v11, v12, v13, v14, v15, v16, v17, v18, v19, v20, v21, v22, v23, v24, v25, rfl, H⟩ K hK
        have d1 : d 1 = true := hdep ⟨1, .data⟩ (by simp) rfl
        clear hdep
        obtain ⟨-, s0, s1, s2, s3, s4⟩ := HS.out _ H.chg
        have e1 := H.p1 d1
        subst e1
        go_simp
        have hg : Below w'.heap.size w' w' := Below.refl _ _
        refine hK _ _ ⟨_, _, _, _, _, _, _, _, _, _, _, _, _, _, _, _, _, _, _, _, _, rfl, ?_⟩
        constructor
        · exact H.chg.trans (hg.mono H.chg.size)
        · intro hj; have h := H.p0 (by simpa using hj); exact h.ext hg
        · intro hj; have h := H.p1 (by simpa using hj); exact h
        · intro _; exact rfl
        · intro hj; have h := H.p3 (by simpa using hj); exact h.ext hg
        · intro hj; have h := H.p4 (by simpa using hj); exact h
        · intro hj; have h := H.p5 (by simpa using hj); exact h
        · intro hj; have h := H.p6 (by simpa using hj); exact h
        · intro hj; have h := H.p7 (by simpa using hj); exact h
        · intro hj; have h := H.p8 (by simpa using hj); exact h
        · intro hj; have h := H.p9 (by simpa using hj); exact h
        · intro hj; have h := H.p10 (by simpa using hj); exact h
        · intro hj; have h := H.p11 (by simpa using hj); exact h
        · intro hj; have h := H.p12 (by simpa using hj); exact h
        · intro hj; have h := H.p13 (by simpa using hj); exact h
        · intro hj; have h := H.p14 (by simpa using hj); exact h
        · intro hj; have h := H.p15 (by simpa using hj); exact h
        · intro hj; have h := H.p16 (by simpa using hj); exact h
        · intro hj; have h := H.p17 (by simpa using hj); exact h
        · intro hj; have h := H.p18 (by simpa using hj); exact h
        · intro hj; have h := H.p19 (by simpa using hj); exact h
        · intro hj; have h := H.p20 (by simpa using hj); exact h
      · rintro d a w' hd hdep ⟨v3, v6, v7, v8, v9, v10, v11, v12, v13, v14, v15, v16, v17, v18, v19, v20, v21, v22, v23, v24, v25, rfl, H⟩ K hK
        have d0 : d 0 = true := hdep ⟨0, .data⟩ (by simp) rfl
        have d2 : d 2 = true := hdep ⟨2, .data⟩ (by simp) rfl
        clear hdep
        obtain ⟨b, rfl, hb, hbc⟩ := H.p0 d0
        have e2 := H.p2 d2
        subst e2
        go_simp
        have hg : Below w'.heap.size w' w' := Below.refl _ _
        refine hK _ _ ⟨_, _, _, _, _, _, _, _, _, _, _, _, _, _, _, _, _, _, _, _, _, rfl, ?_⟩
        constructor
        · exact H.chg.trans (hg.mono H.chg.size)
        · intro hj; have h := H.p0 (by simpa using hj); exact h.ext hg
        · intro hj; have h := H.p1 (by simpa using hj); exact h
        · intro hj; have h := H.p2 (by simpa using hj); exact h
        · intro _; exact ⟨b, kk, rfl, hb, hbc⟩
        · intro hj; have h := H.p4 (by simpa using hj); exact h
        · intro hj; have h := H.p5 (by simpa using hj); exact h
        · intro hj; have h := H.p6 (by simpa using hj); exact h
        · intro hj; have h := H.p7 (by simpa using hj); exact h
        · intro hj; have h := H.p8 (by simpa using hj); exact h
        · intro hj; have h := H.p9 (by simpa using hj); exact h
        · intro hj; have h := H.p10 (by simpa using hj); exact h
        · intro hj; have h := H.p11 (by simpa using hj); exact h
        · intro hj; have h := H.p12 (by simpa using hj); exact h
        · intro hj; have h := H.p13 (by simpa using hj); exact h
        · intro hj; have h := H.p14 (by simpa using hj); exact h
        · intro hj; have h := H.p15 (by simpa using hj); exact h
        · intro hj; have h := H.p16 (by simpa using hj); exact h
        · intro hj; have h := H.p17 (by simpa using hj); exact h
        · intro hj; have h := H.p18 (by simpa using hj); exact h
        · intro hj; have h := H.p19 (by simpa using hj); exact h
        · intro hj; have h := H.p20 (by simpa using hj); exact h
      · rintro d a w' hd hdep ⟨v3, v6, v7, v8, v9, v10, v11, v12, v13, v14, v15, v16, v17, v18, v19, v20, v21, v22, v23, v24, v25, rfl, H⟩ K hK
        have d3 : d 3 = true := hdep ⟨3, .data⟩ (by simp) rfl
        clear hdep
        obtain ⟨b, o, rfl, hb, hbc⟩ := H.p3 d3
        go_simp
        have hg : Below w'.heap.size w' w' := Below.refl _ _
        refine hK _ _ ⟨_, _, _, _, _, _, _, _, _, _, _, _, _, _, _, _, _, _, _, _, _, rfl, ?_⟩
        constructor
        · exact H.chg.trans (hg.mono H.chg.size)
        · intro hj; have h := H.p0 (by simpa using hj); exact h.ext hg
        · intro hj; have h := H.p1 (by simpa using hj); exact h
        · intro hj; have h := H.p2 (by simpa using hj); exact h
        · intro hj; have h := H.p3 (by simpa using hj); exact h.ext hg
        · intro _; exact rfl
        · intro hj; have h := H.p5 (by simpa using hj); exact h
        · intro hj; have h := H.p6 (by simpa using hj); exact h
        · intro hj; have h := H.p7 (by simpa using hj); exact h
        · intro hj; have h := H.p8 (by simpa using hj); exact h
        · intro hj; have h := H.p9 (by simpa using hj); exact h
        · intro hj; have h := H.p10 (by simpa using hj); exact h
        · intro hj; have h := H.p11 (by simpa using hj); exact h
        · intro hj; have h := H.p12 (by simpa using hj); exact h
        · intro hj; have h := H.p13 (by simpa using hj); exact h
        · intro hj; have h := H.p14 (by simpa using hj); exact h
        · intro hj; have h := H.p15 (by simpa using hj); exact h
        · intro hj; have h := H.p16 (by simpa using hj); exact h
        · intro hj; have h := H.p17 (by simpa using hj); exact h
        · intro hj; have h := H.p18 (by simpa using hj); exact h
        · intro hj; have h := H.p19 (by simpa using hj); exact h
        · intro hj; have h := H.p20 (by simpa using hj); exact h
      · rintro d a w' hd hdep ⟨v3, v6, v7, v8, v9, v10, v11, v12, v13, v14, v15, v16, v17, v18, v19, v20, v21, v22, v23, v24, v25, rfl, H⟩ K hK
        have d4 : d 4 = true := hdep ⟨4, .data⟩ (by simp) rfl
        clear hdep
        have e4 := H.p4 d4
        subst e4
        go_simp
        have hg : Below w'.heap.size w' w' := Below.refl _ _
        refine hK _ _ ⟨_, _, _, _, _, _, _, _, _, _, _, _, _, _, _, _, _, _, _, _, _, rfl, ?_⟩
        constructor
        · exact H.chg.trans (hg.mono H.chg.size)
        · intro hj; have h := H.p0 (by simpa using hj); exact h.ext hg
        · intro hj; have h := H.p1 (by simpa using hj); exact h
        · intro hj; have h := H.p2 (by simpa using hj); exact h
        · intro hj; have h := H.p3 (by simpa using hj); exact h.ext hg
        · intro hj; have h := H.p4 (by simpa using hj); exact h
        · intro _; exact rfl
        · intro hj; have h := H.p6 (by simpa using hj); exact h
        · intro hj; have h := H.p7 (by simpa using hj); exact h
        · intro hj; have h := H.p8 (by simpa using hj); exact h
        · intro hj; have h := H.p9 (by simpa using hj); exact h
        · intro hj; have h := H.p10 (by simpa using hj); exact h
        · intro hj; have h := H.p11 (by simpa using hj); exact h
        · intro hj; have h := H.p12 (by simpa using hj); exact h
        · intro hj; have h := H.p13 (by simpa using hj); exact h
        · intro hj; have h := H.p14 (by simpa using hj); exact h
        · intro hj; have h := H.p15 (by simpa using hj); exact h
        · intro hj; have h := H.p16 (by simpa using hj); exact h
        · intro hj; have h := H.p17 (by simpa using hj); exact h
        · intro hj; have h := H.p18 (by simpa using hj); exact h
        · intro hj; have h := H.p19 (by simpa using hj); exact h
        · intro hj; have h := H.p20 (by simpa using hj); exact h
      · rintro d a w' hd hdep ⟨v3, v6, v7, v8, v9, v10, v11, v12, v13, v14, v15, v16, v17, v18, v19, v20, v21, v22, v23, v24, v25, rfl, H⟩ K hK
        clear hdep
        go_simp
        have hg : Below w'.heap.size w' w' := Below.refl _ _
        refine hK _ _ ⟨_, _, _, _, _, _, _, _, _, _, _, _, _, _, _, _, _, _, _, _, _, rfl, ?_⟩
        constructor
        · exact H.chg.trans (hg.mono H.chg.size)
        · intro hj; have h := H.p0 (by simpa using hj); exact h.ext hg
        · intro hj; have h := H.p1 (by simpa using hj); exact h
        · intro hj; have h := H.p2 (by simpa using hj); exact h
        · intro hj; have h := H.p3 (by simpa using hj); exact h.ext hg
        · intro hj; have h := H.p4 (by simpa using hj); exact h
        · intro hj; have h := H.p5 (by simpa using hj); exact h
        · intro _; exact rfl
        · intro hj; have h := H.p7 (by simpa using hj); exact h
        · intro hj; have h := H.p8 (by simpa using hj); exact h
        · intro hj; have h := H.p9 (by simpa using hj); exact h
        · intro hj; have h := H.p10 (by simpa using hj); exact h
        · intro hj; have h := H.p11 (by simpa using hj); exact h
        · intro hj; have h := H.p12 (by simpa using hj); exact h
        · intro hj; have h := H.p13 (by simpa using hj); exact h
        · intro hj; have h := H.p14 (by simpa using hj); exact h
        · intro hj; have h := H.p15 (by simpa using hj); exact h
        · intro hj; have h := H.p16 (by simpa using hj); exact h
        · intro hj; have h := H.p17 (by simpa using hj); exact h
        · intro hj; have h := H.p18 (by simpa using hj); exact h
        · intro hj; have h := H.p19 (by simpa using hj); exact h
        · intro hj; have h := H.p20 (by simpa using hj); exact h
      · rintro d a w' hd hdep ⟨v3, v6, v7, v8, v9, v10, v11, v12, v13, v14, v15, v16, v17, v18, v19, v20, v21, v22, v23, v24, v25, rfl, H⟩ K hK
        have d6 : d 6 = true := hdep ⟨6, .data⟩ (by simp) rfl
        clear hdep
        obtain ⟨-, s0, s1, s2, s3, s4⟩ := HS.out _ H.chg
        have e6 := H.p6 d6
        subst e6
        go_simp
        have hg : Below w'.heap.size w' w' := Below.refl _ _
        refine hK _ _ ⟨_, _, _, _, _, _, _, _, _, _, _, _, _, _, _, _, _, _, _, _, _, rfl, ?_⟩
        constructor
        · exact H.chg.trans (hg.mono H.chg.size)
        · intro hj; have h := H.p0 (by simpa using hj); exact h.ext hg
        · intro hj; have h := H.p1 (by simpa using hj); exact h
        · intro hj; have h := H.p2 (by simpa using hj); exact h
        · intro hj; have h := H.p3 (by simpa using hj); exact h.ext hg
        · intro hj; have h := H.p4 (by simpa using hj); exact h
        · intro hj; have h := H.p5 (by simpa using hj); exact h
        · intro hj; have h := H.p6 (by simpa using hj); exact h
        · intro _; exact rfl
        · intro hj; have h := H.p8 (by simpa using hj); exact h
        · intro hj; have h := H.p9 (by simpa using hj); exact h
        · intro hj; have h := H.p10 (by simpa using hj); exact h
        · intro hj; have h := H.p11 (by simpa using hj); exact h
        · intro hj; have h := H.p12 (by simpa using hj); exact h
        · intro hj; have h := H.p13 (by simpa using hj); exact h
        · intro hj; have h := H.p14 (by simpa using hj); exact h
        · intro hj; have h := H.p15 (by simpa using hj); exact h
        · intro hj; have h := H.p16 (by simpa using hj); exact h
        · intro hj; have h := H.p17 (by simpa using hj); exact h
        · intro hj; have h := H.p18 (by simpa using hj); exact h
        · intro hj; have h := H.p19 (by simpa using hj); exact h
        · intro hj; have h := H.p20 (by simpa using hj); exact h
      · rintro d a w' hd hdep ⟨v3, v6, v7, v8, v9, v10, v11, v12, v13, v14, v15, v16, v17, v18, v19, v20, v21, v22, v23, v24, v25, rfl, H⟩ K hK
        have d7 : d 7 = true := hdep ⟨7, .data⟩ (by simp) rfl
        clear hdep
        have e7 := H.p7 d7
        subst e7
        go_simp
        go_at_call 118
        refine (labelText_c ⟨ls, lv⟩ _ Hlab.out).mono ?_
        rintro e w'' ⟨rfl, hg⟩
        refine hK _ _ ⟨_, _, _, _, _, _, _, _, _, _, _, _, _, _, _, _, _, _, _, _, _, rfl, ?_⟩
        constructor
        · exact H.chg.trans (hg.mono H.chg.size)
        · intro hj; have h := H.p0 (by simpa using hj); exact h.ext hg
        · intro hj; have h := H.p1 (by simpa using hj); exact h
        · intro hj; have h := H.p2 (by simpa using hj); exact h
        · intro hj; have h := H.p3 (by simpa using hj); exact h.ext hg
        · intro hj; have h := H.p4 (by simpa using hj); exact h
        · intro hj; have h := H.p5 (by simpa using hj); exact h
        · intro hj; have h := H.p6 (by simpa using hj); exact h
        · intro hj; have h := H.p7 (by simpa using hj); exact h
        · intro _; exact rfl
        · intro hj; have h := H.p9 (by simpa using hj); exact h
        · intro hj; have h := H.p10 (by simpa using hj); exact h
        · intro hj; have h := H.p11 (by simpa using hj); exact h
        · intro hj; have h := H.p12 (by simpa using hj); exact h
        · intro hj; have h := H.p13 (by simpa using hj); exact h
        · intro hj; have h := H.p14 (by simpa using hj); exact h
        · intro hj; have h := H.p15 (by simpa using hj); exact h
        · intro hj; have h := H.p16 (by simpa using hj); exact h
        · intro hj; have h := H.p17 (by simpa using hj); exact h
        · intro hj; have h := H.p18 (by simpa using hj); exact h
        · intro hj; have h := H.p19 (by simpa using hj); exact h
        · intro hj; have h := H.p20 (by simpa using hj); exact h
      · rintro d a w' hd hdep ⟨v3, v6, v7, v8, v9, v10, v11, v12, v13, v14, v15, v16, v17, v18, v19, v20, v21, v22, v23, v24, v25, rfl, H⟩ K hK
        have d5 : d 5 = true := hdep ⟨5, .data⟩ (by simp) rfl
        have d8 : d 8 = true := hdep ⟨8, .data⟩ (by simp) rfl
        clear hdep
        have e5 := H.p5 d5
        subst e5
        have e8 := H.p8 d8
        subst e8
        go_simp
        have hg : Below w'.heap.size w' w' := Below.refl _ _
        refine hK _ _ ⟨_, _, _, _, _, _, _, _, _, _, _, _, _, _, _, _, _, _, _, _, _, rfl, ?_⟩
        constructor
        · exact H.chg.trans (hg.mono H.chg.size)
        · intro hj; have h := H.p0 (by simpa using hj); exact h.ext hg
        · intro hj; have h := H.p1 (by simpa using hj); exact h
        · intro hj; have h := H.p2 (by simpa using hj); exact h
        · intro hj; have h := H.p3 (by simpa using hj); exact h.ext hg
        · intro hj; have h := H.p4 (by simpa using hj); exact h
        · intro hj; have h := H.p5 (by simpa using hj); exact h
        · intro hj; have h := H.p6 (by simpa using hj); exact h
        · intro hj; have h := H.p7 (by simpa using hj); exact h
        · intro hj; have h := H.p8 (by simpa using hj); exact h
        · intro _; exact rfl
        · intro hj; have h := H.p10 (by simpa using hj); exact h
        · intro hj; have h := H.p11 (by simpa using hj); exact h
        · intro hj; have h := H.p12 (by simpa using hj); exact h
        · intro hj; have h := H.p13 (by simpa using hj); exact h
        · intro hj; have h := H.p14 (by simpa using hj); exact h
        · intro hj; have h := H.p15 (by simpa using hj); exact h
        · intro hj; have h := H.p16 (by simpa using hj); exact h
        · intro hj; have h := H.p17 (by simpa using hj); exact h
        · intro hj; have h := H.p18 (by simpa using hj); exact h
        · intro hj; have h := H.p19 (by simpa using hj); exact h
        · intro hj; have h := H.p20 (by simpa using hj); exact h
      · rintro d a w' hd hdep ⟨v3, v6, v7, v8, v9, v10, v11, v12, v13, v14, v15, v16, v17, v18, v19, v20, v21, v22, v23, v24, v25, rfl, H⟩ K hK
        have d9 : d 9 = true := hdep ⟨9, .data⟩ (by simp) rfl
        clear hdep
        have e9 := H.p9 d9
        subst e9
        go_simp
        have hg : Below w'.heap.size w' w' := Below.refl _ _
        refine hK _ _ ⟨_, _, _, _, _, _, _, _, _, _, _, _, _, _, _, _, _, _, _, _, _, rfl, ?_⟩
        constructor
        · exact H.chg.trans (hg.mono H.chg.size)
        · intro hj; have h := H.p0 (by simpa using hj); exact h.ext hg
        · intro hj; have h := H.p1 (by simpa using hj); exact h
        · intro hj; have h := H.p2 (by simpa using hj); exact h
        · intro hj; have h := H.p3 (by simpa using hj); exact h.ext hg
        · intro hj; have h := H.p4 (by simpa using hj); exact h
        · intro hj; have h := H.p5 (by simpa using hj); exact h
        · intro hj; have h := H.p6 (by simpa using hj); exact h
        · intro hj; have h := H.p7 (by simpa using hj); exact h
        · intro hj; have h := H.p8 (by simpa using hj); exact h
        · intro hj; have h := H.p9 (by simpa using hj); exact h
        · intro _; exact rfl
        · intro hj; have h := H.p11 (by simpa using hj); exact h
        · intro hj; have h := H.p12 (by simpa using hj); exact h
        · intro hj; have h := H.p13 (by simpa using hj); exact h
        · intro hj; have h := H.p14 (by simpa using hj); exact h
        · intro hj; have h := H.p15 (by simpa using hj); exact h
        · intro hj; have h := H.p16 (by simpa using hj); exact h
        · intro hj; have h := H.p17 (by simpa using hj); exact h
        · intro hj; have h := H.p18 (by simpa using hj); exact h
        · intro hj; have h := H.p19 (by simpa using hj); exact h
        · intro hj; have h := H.p20 (by simpa using hj); exact h
      · rintro d a w' hd hdep ⟨v3, v6, v7, v8, v9, v10, v11, v12, v13, v14, v15, v16, v17, v18, v19, v20, v21, v22, v23, v24, v25, rfl, H⟩ K hK
        clear hdep
        go_simp
        have hg : Below w'.heap.size w' w' := Below.refl _ _
        refine hK _ _ ⟨_, _, _, _, _, _, _, _, _, _, _, _, _, _, _, _, _, _, _, _, _, rfl, ?_⟩
        constructor
        · exact H.chg.trans (hg.mono H.chg.size)
        · intro hj; have h := H.p0 (by simpa using hj); exact h.ext hg
        · intro hj; have h := H.p1 (by simpa using hj); exact h
        · intro hj; have h := H.p2 (by simpa using hj); exact h
        · intro hj; have h := H.p3 (by simpa using hj); exact h.ext hg
        · intro hj; have h := H.p4 (by simpa using hj); exact h
        · intro hj; have h := H.p5 (by simpa using hj); exact h
        · intro hj; have h := H.p6 (by simpa using hj); exact h
        · intro hj; have h := H.p7 (by simpa using hj); exact h
        · intro hj; have h := H.p8 (by simpa using hj); exact h
        · intro hj; have h := H.p9 (by simpa using hj); exact h
        · intro hj; have h := H.p10 (by simpa using hj); exact h
        · intro _; exact rfl
        · intro hj; have h := H.p12 (by simpa using hj); exact h
        · intro hj; have h := H.p13 (by simpa using hj); exact h
        · intro hj; have h := H.p14 (by simpa using hj); exact h
        · intro hj; have h := H.p15 (by simpa using hj); exact h
        · intro hj; have h := H.p16 (by simpa using hj); exact h
        · intro hj; have h := H.p17 (by simpa using hj); exact h
        · intro hj; have h := H.p18 (by simpa using hj); exact h
        · intro hj; have h := H.p19 (by simpa using hj); exact h
        · intro hj; have h := H.p20 (by simpa using hj); exact h
      · rintro d a w' hd hdep ⟨v3, v6, v7, v8, v9, v10, v11, v12, v13, v14, v15, v16, v17, v18, v19, v20, v21, v22, v23, v24, v25, rfl, H⟩ K hK
        have d11 : d 11 = true := hdep ⟨11, .data⟩ (by simp) rfl
        clear hdep
        obtain ⟨-, s0, s1, s2, s3, s4⟩ := HS.out _ H.chg
        have e11 := H.p11 d11
        subst e11
        go_simp
        have hg : Below w'.heap.size w' w' := Below.refl _ _
        refine hK _ _ ⟨_, _, _, _, _, _, _, _, _, _, _, _, _, _, _, _, _, _, _, _, _, rfl, ?_⟩
        constructor
        · exact H.chg.trans (hg.mono H.chg.size)
        · intro hj; have h := H.p0 (by simpa using hj); exact h.ext hg
        · intro hj; have h := H.p1 (by simpa using hj); exact h
        · intro hj; have h := H.p2 (by simpa using hj); exact h
        · intro hj; have h := H.p3 (by simpa using hj); exact h.ext hg
        · intro hj; have h := H.p4 (by simpa using hj); exact h
        · intro hj; have h := H.p5 (by simpa using hj); exact h
        · intro hj; have h := H.p6 (by simpa using hj); exact h
        · intro hj; have h := H.p7 (by simpa using hj); exact h
        · intro hj; have h := H.p8 (by simpa using hj); exact h
        · intro hj; have h := H.p9 (by simpa using hj); exact h
        · intro hj; have h := H.p10 (by simpa using hj); exact h
        · intro hj; have h := H.p11 (by simpa using hj); exact h
        · intro _; exact rfl
        · intro hj; have h := H.p13 (by simpa using hj); exact h
        · intro hj; have h := H.p14 (by simpa using hj); exact h
        · intro hj; have h := H.p15 (by simpa using hj); exact h
        · intro hj; have h := H.p16 (by simpa using hj); exact h
        · intro hj; have h := H.p17 (by simpa using hj); exact h
        · intro hj; have h := H.p18 (by simpa using hj); exact h
        · intro hj; have h := H.p19 (by simpa using hj); exact h
        · intro hj; have h := H.p20 (by simpa using hj); exact h
      · rintro d a w' hd hdep ⟨v3, v6, v7, v8, v9, v10, v11, v12, v13, v14, v15, v16, v17, v18, v19, v20, v21, v22, v23, v24, v25, rfl, H⟩ K hK
        have d12 : d 12 = true := hdep ⟨12, .data⟩ (by simp) rfl
        clear hdep
        have e12 := H.p12 d12
        subst e12
        go_simp
        go_at_call 119
        refine (l6Dec_c hve0 hve1).mono ?_
        rintro e w'' ⟨rfl, hg⟩
        refine hK _ _ ⟨_, _, _, _, _, _, _, _, _, _, _, _, _, _, _, _, _, _, _, _, _, rfl, ?_⟩
        constructor
        · exact H.chg.trans (hg.mono H.chg.size)
        · intro hj; have h := H.p0 (by simpa using hj); exact h.ext hg
        · intro hj; have h := H.p1 (by simpa using hj); exact h
        · intro hj; have h := H.p2 (by simpa using hj); exact h
        · intro hj; have h := H.p3 (by simpa using hj); exact h.ext hg
        · intro hj; have h := H.p4 (by simpa using hj); exact h
        · intro hj; have h := H.p5 (by simpa using hj); exact h
        · intro hj; have h := H.p6 (by simpa using hj); exact h
        · intro hj; have h := H.p7 (by simpa using hj); exact h
        · intro hj; have h := H.p8 (by simpa using hj); exact h
        · intro hj; have h := H.p9 (by simpa using hj); exact h
        · intro hj; have h := H.p10 (by simpa using hj); exact h
        · intro hj; have h := H.p11 (by simpa using hj); exact h
        · intro hj; have h := H.p12 (by simpa using hj); exact h
        · intro _; exact rfl
        · intro hj; have h := H.p14 (by simpa using hj); exact h
        · intro hj; have h := H.p15 (by simpa using hj); exact h
        · intro hj; have h := H.p16 (by simpa using hj); exact h
        · intro hj; have h := H.p17 (by simpa using hj); exact h
        · intro hj; have h := H.p18 (by simpa using hj); exact h
        · intro hj; have h := H.p19 (by simpa using hj); exact h
        · intro hj; have h := H.p20 (by simpa using hj); exact h
      · rintro d a w' hd hdep ⟨v3, v6, v7, v8, v9, v10, v11, v12, v13, v14, v15, v16, v17, v18, v19, v20, v21, v22, v23, v24, v25, rfl, H⟩ K hK
        have d10 : d 10 = true := hdep ⟨10, .data⟩ (by simp) rfl
        have d13 : d 13 = true := hdep ⟨13, .data⟩ (by simp) rfl
        clear hdep
        have e10 := H.p10 d10
        subst e10
        have e13 := H.p13 d13
        subst e13
        go_simp
        have hg : Below w'.heap.size w' w' := Below.refl _ _
        refine hK _ _ ⟨_, _, _, _, _, _, _, _, _, _, _, _, _, _, _, _, _, _, _, _, _, rfl, ?_⟩
        constructor
        · exact H.chg.trans (hg.mono H.chg.size)
        · intro hj; have h := H.p0 (by simpa using hj); exact h.ext hg
        · intro hj; have h := H.p1 (by simpa using hj); exact h
        · intro hj; have h := H.p2 (by simpa using hj); exact h
        · intro hj; have h := H.p3 (by simpa using hj); exact h.ext hg
        · intro hj; have h := H.p4 (by simpa using hj); exact h
        · intro hj; have h := H.p5 (by simpa using hj); exact h
        · intro hj; have h := H.p6 (by simpa using hj); exact h
        · intro hj; have h := H.p7 (by simpa using hj); exact h
        · intro hj; have h := H.p8 (by simpa using hj); exact h
        · intro hj; have h := H.p9 (by simpa using hj); exact h
        · intro hj; have h := H.p10 (by simpa using hj); exact h
        · intro hj; have h := H.p11 (by simpa using hj); exact h
        · intro hj; have h := H.p12 (by simpa using hj); exact h
        · intro hj; have h := H.p13 (by simpa using hj); exact h
        · intro _; exact rfl
        · intro hj; have h := H.p15 (by simpa using hj); exact h
        · intro hj; have h := H.p16 (by simpa using hj); exact h
        · intro hj; have h := H.p17 (by simpa using hj); exact h
        · intro hj; have h := H.p18 (by simpa using hj); exact h
        · intro hj; have h := H.p19 (by simpa using hj); exact h
        · intro hj; have h := H.p20 (by simpa using hj); exact h
      · rintro d a w' hd hdep ⟨v3, v6, v7, v8, v9, v10, v11, v12, v13, v14, v15, v16, v17, v18, v19, v20, v21, v22, v23, v24, v25, rfl, H⟩ K hK
        have d14 : d 14 = true := hdep ⟨14, .data⟩ (by simp) rfl
        clear hdep
        have e14 := H.p14 d14
        subst e14
        go_simp
        have hg : Below w'.heap.size w' w' := Below.refl _ _
        refine hK _ _ ⟨_, _, _, _, _, _, _, _, _, _, _, _, _, _, _, _, _, _, _, _, _, rfl, ?_⟩
        constructor
        · exact H.chg.trans (hg.mono H.chg.size)
        · intro hj; have h := H.p0 (by simpa using hj); exact h.ext hg
        · intro hj; have h := H.p1 (by simpa using hj); exact h
        · intro hj; have h := H.p2 (by simpa using hj); exact h
        · intro hj; have h := H.p3 (by simpa using hj); exact h.ext hg
        · intro hj; have h := H.p4 (by simpa using hj); exact h
        · intro hj; have h := H.p5 (by simpa using hj); exact h
        · intro hj; have h := H.p6 (by simpa using hj); exact h
        · intro hj; have h := H.p7 (by simpa using hj); exact h
        · intro hj; have h := H.p8 (by simpa using hj); exact h
        · intro hj; have h := H.p9 (by simpa using hj); exact h
        · intro hj; have h := H.p10 (by simpa using hj); exact h
        · intro hj; have h := H.p11 (by simpa using hj); exact h
        · intro hj; have h := H.p12 (by simpa using hj); exact h
        · intro hj; have h := H.p13 (by simpa using hj); exact h
        · intro hj; have h := H.p14 (by simpa using hj); exact h
        · intro _; exact rfl
        · intro hj; have h := H.p16 (by simpa using hj); exact h
        · intro hj; have h := H.p17 (by simpa using hj); exact h
        · intro hj; have h := H.p18 (by simpa using hj); exact h
        · intro hj; have h := H.p19 (by simpa using hj); exact h
        · intro hj; have h := H.p20 (by simpa using hj); exact h
      · rintro d a w' hd hdep ⟨v3, v6, v7, v8, v9, v10, v11, v12, v13, v14, v15, v16, v17, v18, v19, v20, v21, v22, v23, v24, v25, rfl, H⟩ K hK
        clear hdep
        go_simp
        have hg : Below w'.heap.size w' w' := Below.refl _ _
        refine hK _ _ ⟨_, _, _, _, _, _, _, _, _, _, _, _, _, _, _, _, _, _, _, _, _, rfl, ?_⟩
        constructor
        · exact H.chg.trans (hg.mono H.chg.size)
        · intro hj; have h := H.p0 (by simpa using hj); exact h.ext hg
        · intro hj; have h := H.p1 (by simpa using hj); exact h
        · intro hj; have h := H.p2 (by simpa using hj); exact h
        · intro hj; have h := H.p3 (by simpa using hj); exact h.ext hg
        · intro hj; have h := H.p4 (by simpa using hj); exact h
        · intro hj; have h := H.p5 (by simpa using hj); exact h
        · intro hj; have h := H.p6 (by simpa using hj); exact h
        · intro hj; have h := H.p7 (by simpa using hj); exact h
        · intro hj; have h := H.p8 (by simpa using hj); exact h
        · intro hj; have h := H.p9 (by simpa using hj); exact h
        · intro hj; have h := H.p10 (by simpa using hj); exact h
        · intro hj; have h := H.p11 (by simpa using hj); exact h
        · intro hj; have h := H.p12 (by simpa using hj); exact h
        · intro hj; have h := H.p13 (by simpa using hj); exact h
        · intro hj; have h := H.p14 (by simpa using hj); exact h
        · intro hj; have h := H.p15 (by simpa using hj); exact h
        · intro _; exact rfl
        · intro hj; have h := H.p17 (by simpa using hj); exact h
        · intro hj; have h := H.p18 (by simpa using hj); exact h
        · intro hj; have h := H.p19 (by simpa using hj); exact h
        · intro hj; have h := H.p20 (by simpa using hj); exact h
      · rintro d a w' hd hdep ⟨v3, v6, v7, v8, v9, v10, v11, v12, v13, v14, v15, v16, v17, v18, v19, v20, v21, v22, v23, v24, v25, rfl, H⟩ K hK
        have d16 : d 16 = true := hdep ⟨16, .data⟩ (by simp) rfl
        clear hdep
        obtain ⟨-, s0, s1, s2, s3, s4⟩ := HS.out _ H.chg
        have e16 := H.p16 d16
        subst e16
        go_simp
        have hg : Below w'.heap.size w' w' := Below.refl _ _
        refine hK _ _ ⟨_, _, _, _, _, _, _, _, _, _, _, _, _, _, _, _, _, _, _, _, _, rfl, ?_⟩
        constructor
        · exact H.chg.trans (hg.mono H.chg.size)
        · intro hj; have h := H.p0 (by simpa using hj); exact h.ext hg
        · intro hj; have h := H.p1 (by simpa using hj); exact h
        · intro hj; have h := H.p2 (by simpa using hj); exact h
        · intro hj; have h := H.p3 (by simpa using hj); exact h.ext hg
        · intro hj; have h := H.p4 (by simpa using hj); exact h
        · intro hj; have h := H.p5 (by simpa using hj); exact h
        · intro hj; have h := H.p6 (by simpa using hj); exact h
        · intro hj; have h := H.p7 (by simpa using hj); exact h
        · intro hj; have h := H.p8 (by simpa using hj); exact h
        · intro hj; have h := H.p9 (by simpa using hj); exact h
        · intro hj; have h := H.p10 (by simpa using hj); exact h
        · intro hj; have h := H.p11 (by simpa using hj); exact h
        · intro hj; have h := H.p12 (by simpa using hj); exact h
        · intro hj; have h := H.p13 (by simpa using hj); exact h
        · intro hj; have h := H.p14 (by simpa using hj); exact h
        · intro hj; have h := H.p15 (by simpa using hj); exact h
        · intro hj; have h := H.p16 (by simpa using hj); exact h
        · intro _; exact rfl
        · intro hj; have h := H.p18 (by simpa using hj); exact h
        · intro hj; have h := H.p19 (by simpa using hj); exact h
        · intro hj; have h := H.p20 (by simpa using hj); exact h
      · rintro d a w' hd hdep ⟨v3, v6, v7, v8, v9, v10, v11, v12, v13, v14, v15, v16, v17, v18, v19, v20, v21, v22, v23, v24, v25, rfl, H⟩ K hK
        have d17 : d 17 = true := hdep ⟨17, .data⟩ (by simp) rfl
        clear hdep
        have e17 := H.p17 d17
        subst e17
        go_simp
        go_at_call 119
        refine (l6Dec_c hnu0 hnu1).mono ?_
        rintro e w'' ⟨rfl, hg⟩
        refine hK _ _ ⟨_, _, _, _, _, _, _, _, _, _, _, _, _, _, _, _, _, _, _, _, _, rfl, ?_⟩
        constructor
        · exact H.chg.trans (hg.mono H.chg.size)
        · intro hj; have h := H.p0 (by simpa using hj); exact h.ext hg
        · intro hj; have h := H.p1 (by simpa using hj); exact h
        · intro hj; have h := H.p2 (by simpa using hj); exact h
        · intro hj; have h := H.p3 (by simpa using hj); exact h.ext hg
        · intro hj; have h := H.p4 (by simpa using hj); exact h
        · intro hj; have h := H.p5 (by simpa using hj); exact h
        · intro hj; have h := H.p6 (by simpa using hj); exact h
        · intro hj; have h := H.p7 (by simpa using hj); exact h
        · intro hj; have h := H.p8 (by simpa using hj); exact h
        · intro hj; have h := H.p9 (by simpa using hj); exact h
        · intro hj; have h := H.p10 (by simpa using hj); exact h
        · intro hj; have h := H.p11 (by simpa using hj); exact h
        · intro hj; have h := H.p12 (by simpa using hj); exact h
        · intro hj; have h := H.p13 (by simpa using hj); exact h
        · intro hj; have h := H.p14 (by simpa using hj); exact h
        · intro hj; have h := H.p15 (by simpa using hj); exact h
        · intro hj; have h := H.p16 (by simpa using hj); exact h
        · intro hj; have h := H.p17 (by simpa using hj); exact h
        · intro _; exact rfl
        · intro hj; have h := H.p19 (by simpa using hj); exact h
        · intro hj; have h := H.p20 (by simpa using hj); exact h
      · rintro d a w' hd hdep ⟨v3, v6, v7, v8, v9, v10, v11, v12, v13, v14, v15, v16, v17, v18, v19, v20, v21, v22, v23, v24, v25, rfl, H⟩ K hK
        have d15 : d 15 = true := hdep ⟨15, .data⟩ (by simp) rfl
        have d18 : d 18 = true := hdep ⟨18, .data⟩ (by simp) rfl
        clear hdep
        have e15 := H.p15 d15
        subst e15
        have e18 := H.p18 d18
        subst e18
        go_simp
        have hg : Below w'.heap.size w' w' := Below.refl _ _
        refine hK _ _ ⟨_, _, _, _, _, _, _, _, _, _, _, _, _, _, _, _, _, _, _, _, _, rfl, ?_⟩
        constructor
        · exact H.chg.trans (hg.mono H.chg.size)
        · intro hj; have h := H.p0 (by simpa using hj); exact h.ext hg
        · intro hj; have h := H.p1 (by simpa using hj); exact h
        · intro hj; have h := H.p2 (by simpa using hj); exact h
        · intro hj; have h := H.p3 (by simpa using hj); exact h.ext hg
        · intro hj; have h := H.p4 (by simpa using hj); exact h
        · intro hj; have h := H.p5 (by simpa using hj); exact h
        · intro hj; have h := H.p6 (by simpa using hj); exact h
        · intro hj; have h := H.p7 (by simpa using hj); exact h
        · intro hj; have h := H.p8 (by simpa using hj); exact h
        · intro hj; have h := H.p9 (by simpa using hj); exact h
        · intro hj; have h := H.p10 (by simpa using hj); exact h
        · intro hj; have h := H.p11 (by simpa using hj); exact h
        · intro hj; have h := H.p12 (by simpa using hj); exact h
        · intro hj; have h := H.p13 (by simpa using hj); exact h
        · intro hj; have h := H.p14 (by simpa using hj); exact h
        · intro hj; have h := H.p15 (by simpa using hj); exact h
        · intro hj; have h := H.p16 (by simpa using hj); exact h
        · intro hj; have h := H.p17 (by simpa using hj); exact h
        · intro hj; have h := H.p18 (by simpa using hj); exact h
        · intro _; exact rfl
        · intro hj; have h := H.p20 (by simpa using hj); exact h
      · rintro d a w' hd hdep ⟨v3, v6, v7, v8, v9, v10, v11, v12, v13, v14, v15, v16, v17, v18, v19, v20, v21, v22, v23, v24, v25, rfl, H⟩ K hK
        have d19 : d 19 = true := hdep ⟨19, .data⟩ (by simp) rfl
        clear hdep
        have e19 := H.p19 d19
        subst e19
        go_simp
        have hg : Below w'.heap.size w' w' := Below.refl _ _
        refine hK _ _ ⟨_, _, _, _, _, _, _, _, _, _, _, _, _, _, _, _, _, _, _, _, _, rfl, ?_⟩
        constructor
        · exact H.chg.trans (hg.mono H.chg.size)
        · intro hj; have h := H.p0 (by simpa using hj); exact h.ext hg
        · intro hj; have h := H.p1 (by simpa using hj); exact h
        · intro hj; have h := H.p2 (by simpa using hj); exact h
        · intro hj; have h := H.p3 (by simpa using hj); exact h.ext hg
        · intro hj; have h := H.p4 (by simpa using hj); exact h
        · intro hj; have h := H.p5 (by simpa using hj); exact h
        · intro hj; have h := H.p6 (by simpa using hj); exact h
        · intro hj; have h := H.p7 (by simpa using hj); exact h
        · intro hj; have h := H.p8 (by simpa using hj); exact h
        · intro hj; have h := H.p9 (by simpa using hj); exact h
        · intro hj; have h := H.p10 (by simpa using hj); exact h
        · intro hj; have h := H.p11 (by simpa using hj); exact h
        · intro hj; have h := H.p12 (by simpa using hj); exact h
        · intro hj; have h := H.p13 (by simpa using hj); exact h
        · intro hj; have h := H.p14 (by simpa using hj); exact h
        · intro hj; have h := H.p15 (by simpa using hj); exact h
        · intro hj; have h := H.p16 (by simpa using hj); exact h
        · intro hj; have h := H.p17 (by simpa using hj); exact h
        · intro hj; have h := H.p18 (by simpa using hj); exact h
        · intro hj; have h := H.p19 (by simpa using hj); exact h
        · intro _; exact rfl
    · rintro d a w' hall ⟨v3, v6, v7, v8, v9, v10, v11, v12, v13, v14, v15, v16, v17, v18, v19, v20, v21, v22, v23, v24, v25, rfl, H⟩
      go_wp2
      go_meet
      exact ⟨H.p20 (hall 20 (by decide)), H.chg⟩
  case rest =>
    obtain ⟨rfl, hB⟩ := hcut
    obtain ⟨wz, rfl⟩ : ∃ wy : World, wy = wc := ⟨_, rfl⟩
    have HBz := Lib.hid hB
    have hzz := hB.size
    obtain ⟨x5, x6, x7, x0⟩ := HS2.out _ hB
    have hDz := Nat.lt_of_lt_of_le hza hzz
    have HZ := Lib.hid (show ∀ w' : World, Below wz.heap.size wz w' → (w'.cell? ⟨w.heap.size, 5, none⟩ = some (.slice ps sl.length cs) ∧ w'.cell? ⟨w.heap.size, 6, none⟩ = some (.slice pq qu.length cq) ∧ w'.cell? ⟨w.heap.size, 7, none⟩ = some (.int .i64 tg) ∧ w'.cell? ⟨w.heap.size, 0, none⟩ = some (.int .i64 (kk : Int))) from fun w' h => HS2.out _ (HBz.out.trans (h.mono hzz)))
    have Hs2 := Lib.hid (Hs1.out.pure hB)
    have Hq2 := Lib.hid (Hq1.out.pure hB)
    clear hB x5 x6 x7 x0 c1 c2 c3 c4 c5 c6 hkt
    go_wp2
    go_loopw [3, 4] (fun s3 s4 wr => ∃ (i : Nat) (u : ByteArray), s4 = .int .i64 (i : Int) ∧ i ≤ sl.length ∧ s3 = .string u ∧ u = bs (pre ++ slotsTxt (sl.take i)) ∧ Below wz.heap.size wz wr) (fun _ s4 _ => sl.length - (intOf s4).toNat)
    case atStart => exact ⟨0, tx6, rfl, by omega, rfl, by rw [E6.out]; simp [slotsTxt], Below.refl _ _⟩
    case round =>
      obtain ⟨i, u, rfl, hi, rfl, hu, hBr⟩ := hrel
      have HBr := Lib.hid hBr
      have hzr := hBr.size
      obtain ⟨x5, x6, x7, x0⟩ := HZ.out _ hBr
      have hl1 := slotsTxt_len (sl.take i)
      have hl2 : (sl.take i).length ≤ 4 := by rw [List.length_take]; omega
      by_cases hlt : i < sl.length
      · obtain ⟨r, hr⟩ : ∃ r, sl[i]? = some r := ⟨_, List.getElem?_eq_getElem hlt⟩
        have hrok := Hrg.out r (List.mem_of_getElem? hr)
        have hl3 := rgtTxt_len r
        obtain ⟨v1, e1, c1⟩ := add_ex Tryz.prog hu (show (⟨#[32]⟩ : ByteArray) = bs [32] from rfl) (by simp; omega)
        obtain ⟨v2, e2, c2⟩ := add_ex Tryz.prog e1 (show bs (rgtTxt r) = _ from rfl) (by simp; omega)
        have hn : v2 = bs (pre ++ slotsTxt (sl.take (i + 1))) := by rw [e2, slotsTxt_next hr]; simp
        have Hn := Lib.hid hn
        have Hr := Lib.hid hrok
        obtain ⟨b, o, rfl, hb, y0, y1, y2, y3, y4⟩ := (Hs2.out.pure hBr).at i r hr
        have hj0 : (0 : Int) ≤ (i : Int) := by omega
        have hju : (i : Int) < (sl.length : Int) := by omega
        obtain ⟨r1, r2, r3, r4, r5⟩ := r
        dsimp only at y0 y1 y2 y3 y4
        clear hl1 hl2 hl3 hu e1 e2 hn hrok hr hBr x6 x7 x0
        go_wp2_with (first | (go_at_call 120; refine (rightText_t (r := ⟨_, _, _, _, _⟩) Hr.out).mono ?_; rintro e w3 ⟨rfl, hb3⟩))
        exact ⟨⟨i + 1, v2, by go_num, by omega, rfl, Hn.out, HBr.out.trans (hb3.mono hzr)⟩, by simp [intOf]; omega⟩
      · have hil : i = sl.length := by omega
        rw [hil, List.take_length] at hu hl1
        have hnl : ¬ (i : Int) < (sl.length : Int) := by omega
        have Hu := Lib.hid hu
        obtain ⟨wy, rfl⟩ : ∃ wy : World, wy = wr := ⟨_, rfl⟩
        have HY := Lib.hid (show ∀ w' : World, Below wy.heap.size wy w' → (w'.cell? ⟨w.heap.size, 5, none⟩ = some (.slice ps sl.length cs) ∧ w'.cell? ⟨w.heap.size, 6, none⟩ = some (.slice pq qu.length cq) ∧ w'.cell? ⟨w.heap.size, 7, none⟩ = some (.int .i64 tg) ∧ w'.cell? ⟨w.heap.size, 0, none⟩ = some (.int .i64 (kk : Int))) from fun w' h => HZ.out _ (HBr.out.trans (h.mono hzr)))
        have Hq3 := Lib.hid (Hq2.out.pure hBr)
        have hq3 : qu.length ≤ 3 := by
          by_cases h4 : (kk : Int) = 4
          · exact hqu3 h4
          · rw [Hq4.out h4]; simp
        have hps : (pre ++ slotsTxt sl).length ≤ 60 := by simp; omega
        obtain ⟨pr2, hpr2⟩ : ∃ l, pre ++ slotsTxt sl = l := ⟨_, rfl⟩
        rw [hpr2] at hps
        have Hpr2 := Lib.hid hpr2
        have Hu2 := Lib.hid (show u = bs pr2 by rw [← hpr2]; exact hu)
        clear hil hu hl1 hl2 hBr hpr2 x6 x7 x0
        go_wp2
        go_loopw [3, 5] (fun s3 s5 wr => ∃ (i : Nat) (u : ByteArray), s5 = .int .i64 (i : Int) ∧ i ≤ qu.length ∧ s3 = .string u ∧ u = bs (pr2 ++ queueTxt (qu.take i)) ∧ Below wy.heap.size wy wr) (fun _ s5 _ => qu.length - (intOf s5).toNat)
        case atStart => exact ⟨0, u, rfl, by omega, rfl, by rw [Hu2.out]; simp [queueTxt], Below.refl _ _⟩
        case round =>
          obtain ⟨j, u', rfl, hj, rfl, hu', hBr2⟩ := hrel
          have HBr2 := Lib.hid hBr2
          have hzr2 := hBr2.size
          obtain ⟨z5, z6, z7, z0⟩ := HY.out _ hBr2
          have hl1 := queueTxt_len (qu.take j)
          have hl2 : (qu.take j).length ≤ 3 := by rw [List.length_take]; omega
          by_cases hlt2 : j < qu.length
          · obtain ⟨n, hn0⟩ : ∃ n, qu[j]? = some n := ⟨_, List.getElem?_eq_getElem hlt2⟩
            have hnb := Hnm.out n (List.mem_of_getElem? hn0)
            have n0 : -4 ≤ n := by omega
            have n1 : n ≤ 99 := by omega
            have hl3 := dec_len n
            obtain ⟨v1, e1, c1⟩ := add_ex Tryz.prog hu' (show (⟨#[32, 60]⟩ : ByteArray) = bs [32, 60] from rfl) (by simp; omega)
            obtain ⟨v2, e2, c2⟩ := add_ex Tryz.prog e1 (show bs (dec n) = _ from rfl) (by simp; omega)
            have hn : v2 = bs (pr2 ++ queueTxt (qu.take (j + 1))) := by rw [e2, queueTxt_next hn0]; simp
            have Hn := Lib.hid hn
            obtain ⟨b, o, rfl, hb, y0⟩ := (Hq3.out.pure hBr2).at j n hn0
            have hj0 : (0 : Int) ≤ (j : Int) := by omega
            have hju : (j : Int) < (qu.length : Int) := by omega
            clear hl1 hl2 hl3 hu' e1 e2 hn hn0 hBr2 z5 z7 z0 hnb
            go_wp2_with (first | (go_at_call 119; refine (l6Dec_c n0 n1).mono ?_; rintro e w3 ⟨rfl, hb3⟩))
            exact ⟨⟨j + 1, v2, by go_num, by omega, rfl, Hn.out, HBr2.out.trans (hb3.mono hzr2)⟩, by simp [intOf]; omega⟩
          · have hjl : j = qu.length := by omega
            rw [hjl, List.take_length] at hu' hl1
            have hnl2 : ¬ (j : Int) < (qu.length : Int) := by omega
            by_cases h5 : (kk : Int) = 5
            · obtain rfl : kk = 5 := by omega
              have tgb := Hto.out
              rw [if_pos h5] at tgb
              have n0 : -4 ≤ tg := by omega
              have n1 : tg ≤ 99 := by omega
              have hl3 := dec_len tg
              obtain ⟨v1, e1, c1⟩ := add_ex Tryz.prog hu' (show (⟨#[32, 62]⟩ : ByteArray) = bs [32, 62] from rfl) (by simp; omega)
              obtain ⟨v2, e2, c2⟩ := add_ex Tryz.prog e1 (show bs (dec tg) = _ from rfl) (by simp; omega)
              obtain ⟨v3, e3, c3⟩ := add_ex Tryz.prog e2 (show (⟨#[10]⟩ : ByteArray) = bs [10] from rfl) (by simp; omega)
              have hn : v3 = bs (thgTxt ⟨(5 : Nat), ⟨ls, lv⟩, ve, nu, sl, qu, tg⟩) := by rw [e3, Hpre.out, ← Hpr2.out]; simp [toTxt]
              have Hn := Lib.hid hn
              clear hl1 hl2 hl3 hu' e1 e2 e3 hn tgb hjl hBr2 z5
              go_wp2_with (first | (go_at_call 119; refine (l6Dec_c n0 n1).mono ?_; rintro e w3 ⟨rfl, hb3⟩))
              go_ret
              exact ⟨by rw [← Hn.out]; rfl, HBa.out.trans (Below.mono (HBz.out.trans (Below.mono (HBr.out.trans (Below.mono (HBr2.out.trans (hb3.mono hzr2)) hzr)) hzz)) HBa.out.size)⟩
            · obtain ⟨v3, e3, c3⟩ := add_ex Tryz.prog hu' (show (⟨#[10]⟩ : ByteArray) = bs [10] from rfl) (by simp; omega)
              have hn : v3 = bs (thgTxt ⟨kk, ⟨ls, lv⟩, ve, nu, sl, qu, tg⟩) := by rw [e3, Hpre.out, ← Hpr2.out]; simp [toTxt, h5]
              have Hn := Lib.hid hn
              clear hl1 hl2 hu' e3 hn hjl hBr2 z5
              go_wp2
              go_ret
              exact ⟨by rw [← Hn.out]; rfl, HBa.out.trans (Below.mono (HBz.out.trans (Below.mono (HBr.out.trans (Below.mono HBr2.out hzr)) hzz)) HBa.out.size)⟩
theorem l3Thing_t {t : Thg} {sva qva : Value} {w : World} (ht : thgOk t = true) (hs : RgtsAt w sva t.slots) (hq : IntsAt w qva t.queue) :
    Calls Tryz.prog 79 #[t.val sva qva] w fun e w' => e = .returned (.string (bs (thgTxt t))) ∧ Below w.heap.size w w' := l3Thing_c t sva qva w ht hs hq
end Go.Proofs.YtghbphdipdjekaaGreatDoor
