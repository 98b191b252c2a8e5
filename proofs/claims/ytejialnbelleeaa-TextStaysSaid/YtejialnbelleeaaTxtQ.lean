/-
  TextStays is true: the walk.
-/
import Derived.Test.YtejialnbelleeaaTxtQ0
namespace Go.Proofs.Ytejialnbelleeaa
open Go Go.RowKit

set_option maxRecDepth 100000 in
set_option maxHeartbeats 40000000 in
theorem stays_few (s0 : ByteArray) (l : List CallR) (A : Option Addr) (c : Nat) (at_ : Int) (w : World) (hv : CallsAt w (.slice A l.length c) l) (hg : ∀ x ∈ l, x.good w) (hs0 : s0.size ≤ 140737488351232) (hl8 : l.length ≤ 8) :
    Calls Try.prog 5 #[.string s0, .slice A l.length c, .int .i64 at_] w fun e w' => e = .returned (.bool true) ∧ Below w.heap.size w w' := by
  have hf300 := front_size s0 300
  obtain ⟨s, hsf⟩ : ∃ s, s = front s0 300 := ⟨_, rfl⟩
  rw [← hsf] at hf300
  have hs : s.size ≤ 140737488351232 := by omega
  obtain ⟨_, _, he, ⟨hlc, hlm⟩, hcells⟩ := hv
  injection he with e1 e2 e3
  subst e1 e3
  clear e2
  have HC := Lib.hid hcells
  have HG := Lib.hid hg
  clear hcells hg
  have hcase : (((s0.size : Int) ≤ 300) ∧ s = s0) ∨ ((¬ (s0.size : Int) ≤ 300) ∧ s = s0.extract 0 300) := by
    by_cases h : s0.size ≤ 300
    · exact .inl ⟨by omega, hsf.trans (front_whole h)⟩
    · exact .inr ⟨by omega, hsf.trans (front_part h)⟩
  clear hsf
  have hcase2 : ((l.length : Int) ≤ 8 ∧ min l.length 8 = l.length ∧ c = l.length) ∨ ((l.length : Int) ≤ 8 ∧ min l.length 8 = l.length ∧ c ≠ l.length) := by
    by_cases h2 : c = l.length
    · exact .inl ⟨by omega, by omega, h2⟩
    · exact .inr ⟨by omega, by omega, h2⟩
  clear hl8
  go_enter Try.func5, Try.ntmps5
  go_wp2_with fail
  refine (wakes_any _).mono ?_
  rintro e w1 ⟨rfl, x1⟩
  rcases hcase with ⟨h300, hsq⟩ | ⟨h300, hsq⟩ <;> rcases hcase2 with ⟨h8, hm8, hc8⟩ | ⟨h8, hm8, hc8⟩
  all_goals
    have HSQ := Lib.hid hsq
    have HM8 := Lib.hid hm8
    clear hsq hm8
    go_wp2_with fail
    rw [← HSQ.out]
    refine (Of_any _ _).mono ?_
    rintro e w2 ⟨g, rfl, r2, n2, x2⟩
    have y2 := x1.trans x2
    have m2 := Nat.le_trans x1.size n2
    clear x1 x2 n2
    go_wp2_with fail
    go_loopw [9, 38] (fun v i wr => ∃ (k p : Nat) (er : Int), k ≤ min l.length 8 ∧ i = .int .i64 (k : Int) ∧ v = .int .i64 (p : Int) ∧ p ≤ s.size ∧ (er = 0 ∨ er = 130) ∧ RdAt wr g s p er ∧ Ext G0 w wr) (fun _ i _ => 8 - (intOf i).toNat)
    case atStart => exact ⟨0, 0, 0, Nat.zero_le _, rfl, rfl, Nat.zero_le _, .inl rfl, r2, y2⟩
    case round =>
      obtain ⟨k, p, er, hk, rfl, rfl, hp, her, hr, hx⟩ := hrel
      by_cases hlt : k < min l.length 8
      · have hkl : k < l.length := by omega
        have i1 : (k : Int) < (l.length : Int) := by omega
        have i2 : (k : Int) < 8 := by omega
        rcases HC.out with h | ⟨b, off, hA, hcell⟩
        · rw [h] at hkl; simp at hkl
        subst hA
        obtain ⟨d0, d1, d2, d3, d4, d5, d6, d7⟩ := calls_cells hcell hx hkl
        have hgd := (HG.out _ (List.getElem_mem hkl)).ext hx
        clear hcell
        generalize l[k] = x at *
        have hkd := x.kind_lt
        have HK := Lib.hid (fun w => kind_any x w)
        go_wp2_with fail
        clear d0 d1 d2 d3 d4 d5 d6 d7
        generalize hwz : World.alloc wr _ = wz
        have fX : wz.heap[wr.heap.size]? = some (.cells (callC x) 27 (0, 0)) := by rw [← hwz]; exact heap_new _ _
        have hx1 : Ext G0 wr wz := by rw [← hwz]; exact (Ext.refl _ _).alloc _
        clear hwz
        refine (HK.out _).mono ?_
        rintro e w3 ⟨rfl, x3⟩
        have hx3 := hx1.trans x3
        have gX := ext_heap x3 fX (fun x => x)
        have hr3 := hr.ext hx3 (fun x => x)
        have hgd3 := hgd.ext hx3
        have y3 := hx.trans hx3
        clear hx1 x3 fX hr hgd hx HK hx3
        by_cases h7 : x.kind = 7
        · have t1 : (x.kind != 7) = false := by simp [h7]
          clear h7 hkd
          generalize x.kind = kd at *
          go_wp2_with fail
          refine (At_any _ _ _ _ _ hr3).mono ?_
          rintro e w4 ⟨rfl, rfl⟩
          go_wp2_with fail
          refine (At_any _ _ _ _ _ hr3).mono ?_
          rintro e w4 ⟨rfl, rfl⟩
          go_wp2
          go_roundw
          case rel => exact ⟨k + 1, p, er, by omega, by go_num, rfl, hp, her, hr3, y3⟩
          case measure => simp [intOf]; omega
        · have t1 : (x.kind != 7) = true := by simp [h7]
          obtain ⟨f1, f2, f3⟩ := stepC_fine x hp her h7
          have hca := call_any x g p s er w3 hr3 hgd3 hp hs
          clear h7 hkd her
          generalize (stepC s x p er).1 = p' at *
          generalize (stepC s x p er).2 = er' at *
          generalize x.kind = kd at *
          obtain ⟨d0, d1, d2, d3, d4, d5, d6, d7⟩ := call_box gX
          have HCA := Lib.hid hca
          clear hca
          go_wp2_with fail
          clear d0 d1 d2 d3 d4 d5 d6 d7
          refine HCA.out.mono ?_
          rintro e w4 ⟨rfl, hr4, x4⟩
          have y4 := y3.own x4 m2
          have t2 : decide ((p' : Int) < (p : Int)) = false := by simp; omega
          clear y3 x4 hr3 gX
          go_wp2_with fail
          refine (At_any _ _ _ _ _ hr4).mono ?_
          rintro e w5 ⟨rfl, rfl⟩
          go_wp2_with fail
          refine (At_any _ _ _ _ _ hr4).mono ?_
          rintro e w5 ⟨rfl, rfl⟩
          go_wp2
          go_roundw
          case rel => exact ⟨k + 1, p', er', by omega, by go_num, rfl, f2, f3, hr4, y4⟩
          case measure => simp [intOf]; omega
      · have hke : k = min l.length 8 := by omega
        rw [HM8.out] at hke
        subst hke
        clear r2 y2 hlt hk
        go_wp2_with fail
        have hfb := failR_bd (s := s) at_ 132 hp
        refine (Fail_any g p s er at_ 132 _ hr).mono ?_
        rintro e w3 ⟨rfl, hr3, x3⟩
        have y3 := hx.own x3 m2
        clear hx x3 hr
        have key : ∃ (P : Nat) (E : Int), RdAt w3 g s P E ∧ P ≤ s.size ∧ (E = 130 ∨ (E = 132 ∧ ((at_ < 0 ∧ P = 0) ∨ ((0 ≤ at_ ∧ at_ ≤ (s.size : Int)) ∧ (P : Int) = at_) ∨ ((0 ≤ at_ ∧ (s.size : Int) < at_) ∧ P = s.size)))) := by
          rcases her with rfl | rfl
          · refine ⟨(min (max at_ 0) (s.size : Int)).toNat, 132, hr3, by omega, .inr ⟨rfl, by omega⟩⟩
          · exact ⟨p, 130, hr3, hp, .inl rfl⟩
        obtain ⟨P, E, hr4, hP, hE⟩ := key
        clear hr3 her hfb hp
        have h0s : ¬ (s.size : Int) < 0 := by omega
        have p0s : decide ((P : Int) < 0) = false := by simp
        have p1s : decide (s.size < P) = false := by simp; omega
        rcases hE with rfl | ⟨rfl, hE⟩
        · go_wp2_with fail
          refine (Err_any _ _ _ _ _ hr4).mono ?_
          rintro e w5 ⟨rfl, x5⟩
          have y5 := y3.trans x5
          have hr5 := hr4.ext x5 (fun x => x)
          clear y3 x5 hr4
          unfold errV
          rw [if_neg (by decide)]
          go_wp2_with fail
          refine (At_any _ _ _ _ _ hr5).mono ?_
          rintro e w6 ⟨rfl, rfl⟩
          go_wp2_with fail
          refine wp_loop_rounds 1 ?_
          rw [rounds_succ]
          go_wp2_with fail
          have HR7 := hr5
          have HY7 := y5
          refine (Err_any _ _ _ _ _ HR7).mono ?_
          rintro e w8 ⟨rfl, x8⟩
          have hr8 := HR7.ext x8 (fun x => x)
          have y8 := HY7.trans x8
          unfold errV
          rw [if_neg (by decide)]
          clear x8
          go_wp2_with fail
          have hnx := Next_any g P s 130 _ hr8 hP hs
          rw [show peekN s P 130 = (0, false) from dif_neg (by omega), show nextP s P 130 = P from if_neg (by omega)] at hnx
          unfold peekV at hnx
          refine hnx.mono ?_
          clear hnx
          rintro e w9 ⟨rfl, hr9, x9⟩
          have y9 := y8.own x9 m2
          clear x9 y8 hr8
          go_wp2_with fail
          have hlf := Left_any g P s 130 _ hr9 hP hs
          rw [show leftN s P 130 = 0 from if_neg (by decide)] at hlf
          refine hlf.mono ?_
          clear hlf
          rintro e w10 ⟨rfl, x10⟩
          have hr10 := hr9.ext x10 (fun x => x)
          have y10 := y9.trans x10
          clear x10 y9 hr9
          go_wp2_with fail
          have hen := End_any g P s 130 _ hr10 hP
          rw [stepR_bad (by decide)] at hen
          refine hen.mono ?_
          clear hen
          rintro e w11 ⟨rfl, hr11, x11⟩
          go_wp2
          go_ret
          exact ⟨rfl, (y10.own x11 m2).below⟩
        · rcases hE with ⟨ha, rfl⟩ | ⟨⟨ha, hb⟩, rfl⟩ | ⟨⟨ha, hb⟩, rfl⟩
          · go_wp2_with fail
            refine (Err_any _ _ _ _ _ hr4).mono ?_
            rintro e w5 ⟨rfl, x5⟩
            have y5 := y3.trans x5
            have hr5 := hr4.ext x5 (fun x => x)
            clear y3 x5 hr4
            unfold errV
            rw [if_neg (by decide)]
            go_wp2_with fail
            refine (At_any _ _ _ _ _ hr5).mono ?_
            rintro e w6 ⟨rfl, rfl⟩
            go_wp2_with fail
            refine wp_loop_rounds 1 ?_
            rw [rounds_succ]
            go_wp2_with fail
            have HR7 := hr5
            have HY7 := y5
            refine (Err_any _ _ _ _ _ HR7).mono ?_
            rintro e w8 ⟨rfl, x8⟩
            have hr8 := HR7.ext x8 (fun x => x)
            have y8 := HY7.trans x8
            unfold errV
            rw [if_neg (by decide)]
            clear x8
            go_wp2_with fail
            have hnx := Next_any g 0 s 132 _ hr8 hP hs
            rw [show peekN s 0 132 = (0, false) from dif_neg (by omega), show nextP s 0 132 = 0 from if_neg (by omega)] at hnx
            unfold peekV at hnx
            refine hnx.mono ?_
            clear hnx
            rintro e w9 ⟨rfl, hr9, x9⟩
            have y9 := y8.own x9 m2
            clear x9 y8 hr8
            go_wp2_with fail
            have hlf := Left_any g 0 s 132 _ hr9 hP hs
            rw [show leftN s 0 132 = 0 from if_neg (by decide)] at hlf
            refine hlf.mono ?_
            clear hlf
            rintro e w10 ⟨rfl, x10⟩
            have hr10 := hr9.ext x10 (fun x => x)
            have y10 := y9.trans x10
            clear x10 y9 hr9
            go_wp2_with fail
            have hen := End_any g 0 s 132 _ hr10 hP
            rw [stepR_bad (by decide)] at hen
            refine hen.mono ?_
            clear hen
            rintro e w11 ⟨rfl, hr11, x11⟩
            go_wp2
            go_ret
            exact ⟨rfl, (y10.own x11 m2).below⟩
          · go_wp2_with fail
            refine (Err_any _ _ _ _ _ hr4).mono ?_
            rintro e w5 ⟨rfl, x5⟩
            have y5 := y3.trans x5
            have hr5 := hr4.ext x5 (fun x => x)
            clear y3 x5 hr4
            unfold errV
            rw [if_neg (by decide)]
            go_wp2_with fail
            refine (At_any _ _ _ _ _ hr5).mono ?_
            rintro e w6 ⟨rfl, rfl⟩
            go_wp2_with fail
            refine wp_loop_rounds 1 ?_
            rw [rounds_succ]
            go_wp2_with fail
            have HR7 := hr5
            have HY7 := y5
            refine (Err_any _ _ _ _ _ HR7).mono ?_
            rintro e w8 ⟨rfl, x8⟩
            have hr8 := HR7.ext x8 (fun x => x)
            have y8 := HY7.trans x8
            unfold errV
            rw [if_neg (by decide)]
            clear x8
            go_wp2_with fail
            have hnx := Next_any g P s 132 _ hr8 hP hs
            rw [show peekN s P 132 = (0, false) from dif_neg (by omega), show nextP s P 132 = P from if_neg (by omega)] at hnx
            unfold peekV at hnx
            refine hnx.mono ?_
            clear hnx
            rintro e w9 ⟨rfl, hr9, x9⟩
            have y9 := y8.own x9 m2
            clear x9 y8 hr8
            go_wp2_with fail
            have hlf := Left_any g P s 132 _ hr9 hP hs
            rw [show leftN s P 132 = 0 from if_neg (by decide)] at hlf
            refine hlf.mono ?_
            clear hlf
            rintro e w10 ⟨rfl, x10⟩
            have hr10 := hr9.ext x10 (fun x => x)
            have y10 := y9.trans x10
            clear x10 y9 hr9
            go_wp2_with fail
            have hen := End_any g P s 132 _ hr10 hP
            rw [stepR_bad (by decide)] at hen
            refine hen.mono ?_
            clear hen
            rintro e w11 ⟨rfl, hr11, x11⟩
            go_wp2
            go_ret
            exact ⟨rfl, (y10.own x11 m2).below⟩
          · go_wp2_with fail
            refine (Err_any _ _ _ _ _ hr4).mono ?_
            rintro e w5 ⟨rfl, x5⟩
            have y5 := y3.trans x5
            have hr5 := hr4.ext x5 (fun x => x)
            clear y3 x5 hr4
            unfold errV
            rw [if_neg (by decide)]
            go_wp2_with fail
            refine (At_any _ _ _ _ _ hr5).mono ?_
            rintro e w6 ⟨rfl, rfl⟩
            go_wp2_with fail
            refine wp_loop_rounds 1 ?_
            rw [rounds_succ]
            go_wp2_with fail
            have HR7 := hr5
            have HY7 := y5
            refine (Err_any _ _ _ _ _ HR7).mono ?_
            rintro e w8 ⟨rfl, x8⟩
            have hr8 := HR7.ext x8 (fun x => x)
            have y8 := HY7.trans x8
            unfold errV
            rw [if_neg (by decide)]
            clear x8
            go_wp2_with fail
            have hnx := Next_any g s.size s 132 _ hr8 hP hs
            rw [show peekN s s.size 132 = (0, false) from dif_neg (by omega), show nextP s s.size 132 = s.size from if_neg (by omega)] at hnx
            unfold peekV at hnx
            refine hnx.mono ?_
            clear hnx
            rintro e w9 ⟨rfl, hr9, x9⟩
            have y9 := y8.own x9 m2
            clear x9 y8 hr8
            go_wp2_with fail
            have hlf := Left_any g s.size s 132 _ hr9 hP hs
            rw [show leftN s s.size 132 = 0 from if_neg (by decide)] at hlf
            refine hlf.mono ?_
            clear hlf
            rintro e w10 ⟨rfl, x10⟩
            have hr10 := hr9.ext x10 (fun x => x)
            have y10 := y9.trans x10
            clear x10 y9 hr9
            go_wp2_with fail
            have hen := End_any g s.size s 132 _ hr10 hP
            rw [stepR_bad (by decide)] at hen
            refine hen.mono ?_
            clear hen
            rintro e w11 ⟨rfl, hr11, x11⟩
            go_wp2
            go_ret
            exact ⟨rfl, (y10.own x11 m2).below⟩

set_option maxRecDepth 100000 in
set_option maxHeartbeats 40000000 in
theorem stays_many (s0 : ByteArray) (l : List CallR) (A : Option Addr) (c : Nat) (at_ : Int) (w : World) (hv : CallsAt w (.slice A l.length c) l) (hg : ∀ x ∈ l, x.good w) (hs0 : s0.size ≤ 140737488351232) (hl8 : ¬ l.length ≤ 8) :
    Calls Try.prog 5 #[.string s0, .slice A l.length c, .int .i64 at_] w fun e w' => e = .returned (.bool true) ∧ Below w.heap.size w w' := by
  have hf300 := front_size s0 300
  obtain ⟨s, hsf⟩ : ∃ s, s = front s0 300 := ⟨_, rfl⟩
  rw [← hsf] at hf300
  have hs : s.size ≤ 140737488351232 := by omega
  obtain ⟨_, _, he, ⟨hlc, hlm⟩, hcells⟩ := hv
  injection he with e1 e2 e3
  subst e1 e3
  clear e2
  have HC := Lib.hid hcells
  have HG := Lib.hid hg
  clear hcells hg
  have hcase : (((s0.size : Int) ≤ 300) ∧ s = s0) ∨ ((¬ (s0.size : Int) ≤ 300) ∧ s = s0.extract 0 300) := by
    by_cases h : s0.size ≤ 300
    · exact .inl ⟨by omega, hsf.trans (front_whole h)⟩
    · exact .inr ⟨by omega, hsf.trans (front_part h)⟩
  clear hsf
  have h8 : ¬ (l.length : Int) ≤ 8 := by omega
  have hm8 : min l.length 8 = 8 := by omega
  obtain ⟨b, off, rfl⟩ : ∃ b off, A = some ⟨b, off, none⟩ := by
    rcases HC.out with h3 | ⟨b, off, h3, _⟩
    · rw [h3] at hl8; simp at hl8
    · exact ⟨b, off, h3⟩
  clear hl8
  go_enter Try.func5, Try.ntmps5
  go_wp2_with fail
  refine (wakes_any _).mono ?_
  rintro e w1 ⟨rfl, x1⟩
  rcases hcase with ⟨h300, hsq⟩ | ⟨h300, hsq⟩
  all_goals
    have HSQ := Lib.hid hsq
    have HM8 := Lib.hid hm8
    clear hsq hm8
    go_wp2_with fail
    rw [← HSQ.out]
    refine (Of_any _ _).mono ?_
    rintro e w2 ⟨g, rfl, r2, n2, x2⟩
    have y2 := x1.trans x2
    have m2 := Nat.le_trans x1.size n2
    clear x1 x2 n2
    go_wp2_with fail
    go_loopw [9, 38] (fun v i wr => ∃ (k p : Nat) (er : Int), k ≤ min l.length 8 ∧ i = .int .i64 (k : Int) ∧ v = .int .i64 (p : Int) ∧ p ≤ s.size ∧ (er = 0 ∨ er = 130) ∧ RdAt wr g s p er ∧ Ext G0 w wr) (fun _ i _ => 8 - (intOf i).toNat)
    case atStart => exact ⟨0, 0, 0, Nat.zero_le _, rfl, rfl, Nat.zero_le _, .inl rfl, r2, y2⟩
    case round =>
      obtain ⟨k, p, er, hk, rfl, rfl, hp, her, hr, hx⟩ := hrel
      by_cases hlt : k < min l.length 8
      · have hkl : k < l.length := by omega
        have i1 : (k : Int) < (l.length : Int) := by omega
        have i2 : (k : Int) < 8 := by omega
        rcases HC.out with h | ⟨b', off', hA, hcell⟩
        · rw [h] at hkl; simp at hkl
        injection hA with hA
        injection hA with hA1 hA2
        subst hA1 hA2
        obtain ⟨d0, d1, d2, d3, d4, d5, d6, d7⟩ := calls_cells hcell hx hkl
        have hgd := (HG.out _ (List.getElem_mem hkl)).ext hx
        clear hcell
        generalize l[k] = x at *
        have hkd := x.kind_lt
        have HK := Lib.hid (fun w => kind_any x w)
        go_wp2_with fail
        clear d0 d1 d2 d3 d4 d5 d6 d7
        generalize hwz : World.alloc wr _ = wz
        have fX : wz.heap[wr.heap.size]? = some (.cells (callC x) 27 (0, 0)) := by rw [← hwz]; exact heap_new _ _
        have hx1 : Ext G0 wr wz := by rw [← hwz]; exact (Ext.refl _ _).alloc _
        clear hwz
        refine (HK.out _).mono ?_
        rintro e w3 ⟨rfl, x3⟩
        have hx3 := hx1.trans x3
        have gX := ext_heap x3 fX (fun x => x)
        have hr3 := hr.ext hx3 (fun x => x)
        have hgd3 := hgd.ext hx3
        have y3 := hx.trans hx3
        clear hx1 x3 fX hr hgd hx HK hx3
        by_cases h7 : x.kind = 7
        · have t1 : (x.kind != 7) = false := by simp [h7]
          clear h7 hkd
          generalize x.kind = kd at *
          go_wp2_with fail
          refine (At_any _ _ _ _ _ hr3).mono ?_
          rintro e w4 ⟨rfl, rfl⟩
          go_wp2_with fail
          refine (At_any _ _ _ _ _ hr3).mono ?_
          rintro e w4 ⟨rfl, rfl⟩
          go_wp2
          go_roundw
          case rel => exact ⟨k + 1, p, er, by omega, by go_num, rfl, hp, her, hr3, y3⟩
          case measure => simp [intOf]; omega
        · have t1 : (x.kind != 7) = true := by simp [h7]
          obtain ⟨f1, f2, f3⟩ := stepC_fine x hp her h7
          have hca := call_any x g p s er w3 hr3 hgd3 hp hs
          clear h7 hkd her
          generalize (stepC s x p er).1 = p' at *
          generalize (stepC s x p er).2 = er' at *
          generalize x.kind = kd at *
          obtain ⟨d0, d1, d2, d3, d4, d5, d6, d7⟩ := call_box gX
          have HCA := Lib.hid hca
          clear hca
          go_wp2_with fail
          clear d0 d1 d2 d3 d4 d5 d6 d7
          refine HCA.out.mono ?_
          rintro e w4 ⟨rfl, hr4, x4⟩
          have y4 := y3.own x4 m2
          have t2 : decide ((p' : Int) < (p : Int)) = false := by simp; omega
          clear y3 x4 hr3 gX
          go_wp2_with fail
          refine (At_any _ _ _ _ _ hr4).mono ?_
          rintro e w5 ⟨rfl, rfl⟩
          go_wp2_with fail
          refine (At_any _ _ _ _ _ hr4).mono ?_
          rintro e w5 ⟨rfl, rfl⟩
          go_wp2
          go_roundw
          case rel => exact ⟨k + 1, p', er', by omega, by go_num, rfl, f2, f3, hr4, y4⟩
          case measure => simp [intOf]; omega
      · have hke : k = min l.length 8 := by omega
        rw [HM8.out] at hke
        subst hke
        clear r2 y2 hlt hk
        go_wp2_with fail
        have hfb := failR_bd (s := s) at_ 132 hp
        refine (Fail_any g p s er at_ 132 _ hr).mono ?_
        rintro e w3 ⟨rfl, hr3, x3⟩
        have y3 := hx.own x3 m2
        clear hx x3 hr
        have key : ∃ (P : Nat) (E : Int), RdAt w3 g s P E ∧ P ≤ s.size ∧ (E = 130 ∨ (E = 132 ∧ ((at_ < 0 ∧ P = 0) ∨ ((0 ≤ at_ ∧ at_ ≤ (s.size : Int)) ∧ (P : Int) = at_) ∨ ((0 ≤ at_ ∧ (s.size : Int) < at_) ∧ P = s.size)))) := by
          rcases her with rfl | rfl
          · refine ⟨(min (max at_ 0) (s.size : Int)).toNat, 132, hr3, by omega, .inr ⟨rfl, by omega⟩⟩
          · exact ⟨p, 130, hr3, hp, .inl rfl⟩
        obtain ⟨P, E, hr4, hP, hE⟩ := key
        clear hr3 her hfb hp
        have h0s : ¬ (s.size : Int) < 0 := by omega
        have p0s : decide ((P : Int) < 0) = false := by simp
        have p1s : decide (s.size < P) = false := by simp; omega
        rcases hE with rfl | ⟨rfl, hE⟩
        · go_wp2_with fail
          refine (Err_any _ _ _ _ _ hr4).mono ?_
          rintro e w5 ⟨rfl, x5⟩
          have y5 := y3.trans x5
          have hr5 := hr4.ext x5 (fun x => x)
          clear y3 x5 hr4
          unfold errV
          rw [if_neg (by decide)]
          go_wp2_with fail
          refine (At_any _ _ _ _ _ hr5).mono ?_
          rintro e w6 ⟨rfl, rfl⟩
          go_wp2_with fail
          go_loopw [98] (fun i wr => ∃ k : Nat, k ≤ l.length - 8 ∧ i = .int .i64 (k : Int) ∧ RdAt wr g s P 130 ∧ Ext G0 w wr) (fun i _ => l.length - (intOf i).toNat)
          case atStart => exact ⟨0, Nat.zero_le _, rfl, hr5, y5⟩
          case round =>
            obtain ⟨k, hk, rfl, hr6, hx⟩ := hrel
            clear hr5 y5
            by_cases hlt : k < l.length - 8
            · have hkl : 8 + k < l.length := by omega
              have i1 : (k : Int) < ((l.length - 8 : Nat) : Int) := by omega
              rcases HC.out with h | ⟨b', off', hA, hcell⟩
              · rw [h] at hkl; simp at hkl
              injection hA with hA
              injection hA with hA1 hA2
              subst hA1 hA2
              obtain ⟨d0, d1, d2, d3, d4, d5, d6, d7⟩ := calls_cells hcell hx hkl
              rw [show off + (8 + k) * 8 = off + 64 + k * 8 by omega] at d0 d1 d2 d3 d4 d5 d6 d7
              have hgd := (HG.out _ (List.getElem_mem hkl)).ext hx
              clear hcell
              generalize l[8 + k] = x at *
              by_cases h8k : k = 8
              · subst h8k
                go_wp2_with fail
                have HR7 := hr6.alloc (.cells (callC x) 27)
                have HY7 := hx.alloc (.cells (callC x) 27)
                refine (Err_any _ _ _ _ _ HR7).mono ?_
                rintro e w8 ⟨rfl, x8⟩
                have hr8 := HR7.ext x8 (fun x => x)
                have y8 := HY7.trans x8
                unfold errV
                rw [if_neg (by decide)]
                clear x8
                go_wp2_with fail
                have hnx := Next_any g P s 130 _ hr8 hP hs
                rw [show peekN s P 130 = (0, false) from dif_neg (by omega), show nextP s P 130 = P from if_neg (by omega)] at hnx
                unfold peekV at hnx
                refine hnx.mono ?_
                clear hnx
                rintro e w9 ⟨rfl, hr9, x9⟩
                have y9 := y8.own x9 m2
                clear x9 y8 hr8
                go_wp2_with fail
                have hlf := Left_any g P s 130 _ hr9 hP hs
                rw [show leftN s P 130 = 0 from if_neg (by decide)] at hlf
                refine hlf.mono ?_
                clear hlf
                rintro e w10 ⟨rfl, x10⟩
                have hr10 := hr9.ext x10 (fun x => x)
                have y10 := y9.trans x10
                clear x10 y9 hr9
                go_wp2_with fail
                have hen := End_any g P s 130 _ hr10 hP
                rw [stepR_bad (by decide)] at hen
                refine hen.mono ?_
                clear hen
                rintro e w11 ⟨rfl, hr11, x11⟩
                go_wp2
                go_ret
                exact ⟨rfl, (y10.own x11 m2).below⟩
              · have t1 : ((k : Int) == 8) = false := by simp; omega
                go_wp2_with fail
                clear d0 d1 d2 d3 d4 d5 d6 d7
                generalize hwz : World.alloc wr _ = wz
                have fX : wz.heap[wr.heap.size]? = some (.cells (callC x) 27 (0, 0)) := by rw [← hwz]; exact heap_new _ _
                have hx1 : Ext G0 wr wz := by rw [← hwz]; exact (Ext.refl _ _).alloc _
                clear hwz
                have hca := call_any x g P s 130 wz (hr6.ext hx1 (fun x => x)) (hgd.ext hx1) hP hs
                rw [stepC_bad x (by decide)] at hca
                have HCA := Lib.hid hca
                have y3 := hx.trans hx1
                clear hca hgd hx1 hr6 hx
                go_wp2_with fail
                refine HCA.out.mono ?_
                rintro e w4 ⟨rfl, hr7, x7⟩
                have y7 := y3.own x7 m2
                go_wp2
                go_roundw
                case rel => exact ⟨k + 1, by omega, by go_num, hr7, y7⟩
                case measure => simp [intOf]; omega
            · obtain rfl : k = l.length - 8 := by omega
              have HR7 := hr6
              have HY7 := hx
              go_wp2_with fail
              refine (Err_any _ _ _ _ _ HR7).mono ?_
              rintro e w8 ⟨rfl, x8⟩
              have hr8 := HR7.ext x8 (fun x => x)
              have y8 := HY7.trans x8
              unfold errV
              rw [if_neg (by decide)]
              clear x8
              go_wp2_with fail
              have hnx := Next_any g P s 130 _ hr8 hP hs
              rw [show peekN s P 130 = (0, false) from dif_neg (by omega), show nextP s P 130 = P from if_neg (by omega)] at hnx
              unfold peekV at hnx
              refine hnx.mono ?_
              clear hnx
              rintro e w9 ⟨rfl, hr9, x9⟩
              have y9 := y8.own x9 m2
              clear x9 y8 hr8
              go_wp2_with fail
              have hlf := Left_any g P s 130 _ hr9 hP hs
              rw [show leftN s P 130 = 0 from if_neg (by decide)] at hlf
              refine hlf.mono ?_
              clear hlf
              rintro e w10 ⟨rfl, x10⟩
              have hr10 := hr9.ext x10 (fun x => x)
              have y10 := y9.trans x10
              clear x10 y9 hr9
              go_wp2_with fail
              have hen := End_any g P s 130 _ hr10 hP
              rw [stepR_bad (by decide)] at hen
              refine hen.mono ?_
              clear hen
              rintro e w11 ⟨rfl, hr11, x11⟩
              go_wp2
              go_ret
              exact ⟨rfl, (y10.own x11 m2).below⟩
        · rcases hE with ⟨ha, rfl⟩ | ⟨⟨ha, hb⟩, rfl⟩ | ⟨⟨ha, hb⟩, rfl⟩
          · go_wp2_with fail
            refine (Err_any _ _ _ _ _ hr4).mono ?_
            rintro e w5 ⟨rfl, x5⟩
            have y5 := y3.trans x5
            have hr5 := hr4.ext x5 (fun x => x)
            clear y3 x5 hr4
            unfold errV
            rw [if_neg (by decide)]
            go_wp2_with fail
            refine (At_any _ _ _ _ _ hr5).mono ?_
            rintro e w6 ⟨rfl, rfl⟩
            go_wp2_with fail
            go_loopw [98] (fun i wr => ∃ k : Nat, k ≤ l.length - 8 ∧ i = .int .i64 (k : Int) ∧ RdAt wr g s 0 132 ∧ Ext G0 w wr) (fun i _ => l.length - (intOf i).toNat)
            case atStart => exact ⟨0, Nat.zero_le _, rfl, hr5, y5⟩
            case round =>
              obtain ⟨k, hk, rfl, hr6, hx⟩ := hrel
              clear hr5 y5
              by_cases hlt : k < l.length - 8
              · have hkl : 8 + k < l.length := by omega
                have i1 : (k : Int) < ((l.length - 8 : Nat) : Int) := by omega
                rcases HC.out with h | ⟨b', off', hA, hcell⟩
                · rw [h] at hkl; simp at hkl
                injection hA with hA
                injection hA with hA1 hA2
                subst hA1 hA2
                obtain ⟨d0, d1, d2, d3, d4, d5, d6, d7⟩ := calls_cells hcell hx hkl
                rw [show off + (8 + k) * 8 = off + 64 + k * 8 by omega] at d0 d1 d2 d3 d4 d5 d6 d7
                have hgd := (HG.out _ (List.getElem_mem hkl)).ext hx
                clear hcell
                generalize l[8 + k] = x at *
                by_cases h8k : k = 8
                · subst h8k
                  go_wp2_with fail
                  have HR7 := hr6.alloc (.cells (callC x) 27)
                  have HY7 := hx.alloc (.cells (callC x) 27)
                  refine (Err_any _ _ _ _ _ HR7).mono ?_
                  rintro e w8 ⟨rfl, x8⟩
                  have hr8 := HR7.ext x8 (fun x => x)
                  have y8 := HY7.trans x8
                  unfold errV
                  rw [if_neg (by decide)]
                  clear x8
                  go_wp2_with fail
                  have hnx := Next_any g 0 s 132 _ hr8 hP hs
                  rw [show peekN s 0 132 = (0, false) from dif_neg (by omega), show nextP s 0 132 = 0 from if_neg (by omega)] at hnx
                  unfold peekV at hnx
                  refine hnx.mono ?_
                  clear hnx
                  rintro e w9 ⟨rfl, hr9, x9⟩
                  have y9 := y8.own x9 m2
                  clear x9 y8 hr8
                  go_wp2_with fail
                  have hlf := Left_any g 0 s 132 _ hr9 hP hs
                  rw [show leftN s 0 132 = 0 from if_neg (by decide)] at hlf
                  refine hlf.mono ?_
                  clear hlf
                  rintro e w10 ⟨rfl, x10⟩
                  have hr10 := hr9.ext x10 (fun x => x)
                  have y10 := y9.trans x10
                  clear x10 y9 hr9
                  go_wp2_with fail
                  have hen := End_any g 0 s 132 _ hr10 hP
                  rw [stepR_bad (by decide)] at hen
                  refine hen.mono ?_
                  clear hen
                  rintro e w11 ⟨rfl, hr11, x11⟩
                  go_wp2
                  go_ret
                  exact ⟨rfl, (y10.own x11 m2).below⟩
                · have t1 : ((k : Int) == 8) = false := by simp; omega
                  go_wp2_with fail
                  clear d0 d1 d2 d3 d4 d5 d6 d7
                  generalize hwz : World.alloc wr _ = wz
                  have fX : wz.heap[wr.heap.size]? = some (.cells (callC x) 27 (0, 0)) := by rw [← hwz]; exact heap_new _ _
                  have hx1 : Ext G0 wr wz := by rw [← hwz]; exact (Ext.refl _ _).alloc _
                  clear hwz
                  have hca := call_any x g 0 s 132 wz (hr6.ext hx1 (fun x => x)) (hgd.ext hx1) hP hs
                  rw [stepC_bad x (by decide)] at hca
                  have HCA := Lib.hid hca
                  have y3 := hx.trans hx1
                  clear hca hgd hx1 hr6 hx
                  go_wp2_with fail
                  refine HCA.out.mono ?_
                  rintro e w4 ⟨rfl, hr7, x7⟩
                  have y7 := y3.own x7 m2
                  go_wp2
                  go_roundw
                  case rel => exact ⟨k + 1, by omega, by go_num, hr7, y7⟩
                  case measure => simp [intOf]; omega
              · obtain rfl : k = l.length - 8 := by omega
                have HR7 := hr6
                have HY7 := hx
                go_wp2_with fail
                refine (Err_any _ _ _ _ _ HR7).mono ?_
                rintro e w8 ⟨rfl, x8⟩
                have hr8 := HR7.ext x8 (fun x => x)
                have y8 := HY7.trans x8
                unfold errV
                rw [if_neg (by decide)]
                clear x8
                go_wp2_with fail
                have hnx := Next_any g 0 s 132 _ hr8 hP hs
                rw [show peekN s 0 132 = (0, false) from dif_neg (by omega), show nextP s 0 132 = 0 from if_neg (by omega)] at hnx
                unfold peekV at hnx
                refine hnx.mono ?_
                clear hnx
                rintro e w9 ⟨rfl, hr9, x9⟩
                have y9 := y8.own x9 m2
                clear x9 y8 hr8
                go_wp2_with fail
                have hlf := Left_any g 0 s 132 _ hr9 hP hs
                rw [show leftN s 0 132 = 0 from if_neg (by decide)] at hlf
                refine hlf.mono ?_
                clear hlf
                rintro e w10 ⟨rfl, x10⟩
                have hr10 := hr9.ext x10 (fun x => x)
                have y10 := y9.trans x10
                clear x10 y9 hr9
                go_wp2_with fail
                have hen := End_any g 0 s 132 _ hr10 hP
                rw [stepR_bad (by decide)] at hen
                refine hen.mono ?_
                clear hen
                rintro e w11 ⟨rfl, hr11, x11⟩
                go_wp2
                go_ret
                exact ⟨rfl, (y10.own x11 m2).below⟩
          · go_wp2_with fail
            refine (Err_any _ _ _ _ _ hr4).mono ?_
            rintro e w5 ⟨rfl, x5⟩
            have y5 := y3.trans x5
            have hr5 := hr4.ext x5 (fun x => x)
            clear y3 x5 hr4
            unfold errV
            rw [if_neg (by decide)]
            go_wp2_with fail
            refine (At_any _ _ _ _ _ hr5).mono ?_
            rintro e w6 ⟨rfl, rfl⟩
            go_wp2_with fail
            go_loopw [98] (fun i wr => ∃ k : Nat, k ≤ l.length - 8 ∧ i = .int .i64 (k : Int) ∧ RdAt wr g s P 132 ∧ Ext G0 w wr) (fun i _ => l.length - (intOf i).toNat)
            case atStart => exact ⟨0, Nat.zero_le _, rfl, hr5, y5⟩
            case round =>
              obtain ⟨k, hk, rfl, hr6, hx⟩ := hrel
              clear hr5 y5
              by_cases hlt : k < l.length - 8
              · have hkl : 8 + k < l.length := by omega
                have i1 : (k : Int) < ((l.length - 8 : Nat) : Int) := by omega
                rcases HC.out with h | ⟨b', off', hA, hcell⟩
                · rw [h] at hkl; simp at hkl
                injection hA with hA
                injection hA with hA1 hA2
                subst hA1 hA2
                obtain ⟨d0, d1, d2, d3, d4, d5, d6, d7⟩ := calls_cells hcell hx hkl
                rw [show off + (8 + k) * 8 = off + 64 + k * 8 by omega] at d0 d1 d2 d3 d4 d5 d6 d7
                have hgd := (HG.out _ (List.getElem_mem hkl)).ext hx
                clear hcell
                generalize l[8 + k] = x at *
                by_cases h8k : k = 8
                · subst h8k
                  go_wp2_with fail
                  have HR7 := hr6.alloc (.cells (callC x) 27)
                  have HY7 := hx.alloc (.cells (callC x) 27)
                  refine (Err_any _ _ _ _ _ HR7).mono ?_
                  rintro e w8 ⟨rfl, x8⟩
                  have hr8 := HR7.ext x8 (fun x => x)
                  have y8 := HY7.trans x8
                  unfold errV
                  rw [if_neg (by decide)]
                  clear x8
                  go_wp2_with fail
                  have hnx := Next_any g P s 132 _ hr8 hP hs
                  rw [show peekN s P 132 = (0, false) from dif_neg (by omega), show nextP s P 132 = P from if_neg (by omega)] at hnx
                  unfold peekV at hnx
                  refine hnx.mono ?_
                  clear hnx
                  rintro e w9 ⟨rfl, hr9, x9⟩
                  have y9 := y8.own x9 m2
                  clear x9 y8 hr8
                  go_wp2_with fail
                  have hlf := Left_any g P s 132 _ hr9 hP hs
                  rw [show leftN s P 132 = 0 from if_neg (by decide)] at hlf
                  refine hlf.mono ?_
                  clear hlf
                  rintro e w10 ⟨rfl, x10⟩
                  have hr10 := hr9.ext x10 (fun x => x)
                  have y10 := y9.trans x10
                  clear x10 y9 hr9
                  go_wp2_with fail
                  have hen := End_any g P s 132 _ hr10 hP
                  rw [stepR_bad (by decide)] at hen
                  refine hen.mono ?_
                  clear hen
                  rintro e w11 ⟨rfl, hr11, x11⟩
                  go_wp2
                  go_ret
                  exact ⟨rfl, (y10.own x11 m2).below⟩
                · have t1 : ((k : Int) == 8) = false := by simp; omega
                  go_wp2_with fail
                  clear d0 d1 d2 d3 d4 d5 d6 d7
                  generalize hwz : World.alloc wr _ = wz
                  have fX : wz.heap[wr.heap.size]? = some (.cells (callC x) 27 (0, 0)) := by rw [← hwz]; exact heap_new _ _
                  have hx1 : Ext G0 wr wz := by rw [← hwz]; exact (Ext.refl _ _).alloc _
                  clear hwz
                  have hca := call_any x g P s 132 wz (hr6.ext hx1 (fun x => x)) (hgd.ext hx1) hP hs
                  rw [stepC_bad x (by decide)] at hca
                  have HCA := Lib.hid hca
                  have y3 := hx.trans hx1
                  clear hca hgd hx1 hr6 hx
                  go_wp2_with fail
                  refine HCA.out.mono ?_
                  rintro e w4 ⟨rfl, hr7, x7⟩
                  have y7 := y3.own x7 m2
                  go_wp2
                  go_roundw
                  case rel => exact ⟨k + 1, by omega, by go_num, hr7, y7⟩
                  case measure => simp [intOf]; omega
              · obtain rfl : k = l.length - 8 := by omega
                have HR7 := hr6
                have HY7 := hx
                go_wp2_with fail
                refine (Err_any _ _ _ _ _ HR7).mono ?_
                rintro e w8 ⟨rfl, x8⟩
                have hr8 := HR7.ext x8 (fun x => x)
                have y8 := HY7.trans x8
                unfold errV
                rw [if_neg (by decide)]
                clear x8
                go_wp2_with fail
                have hnx := Next_any g P s 132 _ hr8 hP hs
                rw [show peekN s P 132 = (0, false) from dif_neg (by omega), show nextP s P 132 = P from if_neg (by omega)] at hnx
                unfold peekV at hnx
                refine hnx.mono ?_
                clear hnx
                rintro e w9 ⟨rfl, hr9, x9⟩
                have y9 := y8.own x9 m2
                clear x9 y8 hr8
                go_wp2_with fail
                have hlf := Left_any g P s 132 _ hr9 hP hs
                rw [show leftN s P 132 = 0 from if_neg (by decide)] at hlf
                refine hlf.mono ?_
                clear hlf
                rintro e w10 ⟨rfl, x10⟩
                have hr10 := hr9.ext x10 (fun x => x)
                have y10 := y9.trans x10
                clear x10 y9 hr9
                go_wp2_with fail
                have hen := End_any g P s 132 _ hr10 hP
                rw [stepR_bad (by decide)] at hen
                refine hen.mono ?_
                clear hen
                rintro e w11 ⟨rfl, hr11, x11⟩
                go_wp2
                go_ret
                exact ⟨rfl, (y10.own x11 m2).below⟩
          · go_wp2_with fail
            refine (Err_any _ _ _ _ _ hr4).mono ?_
            rintro e w5 ⟨rfl, x5⟩
            have y5 := y3.trans x5
            have hr5 := hr4.ext x5 (fun x => x)
            clear y3 x5 hr4
            unfold errV
            rw [if_neg (by decide)]
            go_wp2_with fail
            refine (At_any _ _ _ _ _ hr5).mono ?_
            rintro e w6 ⟨rfl, rfl⟩
            go_wp2_with fail
            go_loopw [98] (fun i wr => ∃ k : Nat, k ≤ l.length - 8 ∧ i = .int .i64 (k : Int) ∧ RdAt wr g s s.size 132 ∧ Ext G0 w wr) (fun i _ => l.length - (intOf i).toNat)
            case atStart => exact ⟨0, Nat.zero_le _, rfl, hr5, y5⟩
            case round =>
              obtain ⟨k, hk, rfl, hr6, hx⟩ := hrel
              clear hr5 y5
              by_cases hlt : k < l.length - 8
              · have hkl : 8 + k < l.length := by omega
                have i1 : (k : Int) < ((l.length - 8 : Nat) : Int) := by omega
                rcases HC.out with h | ⟨b', off', hA, hcell⟩
                · rw [h] at hkl; simp at hkl
                injection hA with hA
                injection hA with hA1 hA2
                subst hA1 hA2
                obtain ⟨d0, d1, d2, d3, d4, d5, d6, d7⟩ := calls_cells hcell hx hkl
                rw [show off + (8 + k) * 8 = off + 64 + k * 8 by omega] at d0 d1 d2 d3 d4 d5 d6 d7
                have hgd := (HG.out _ (List.getElem_mem hkl)).ext hx
                clear hcell
                generalize l[8 + k] = x at *
                by_cases h8k : k = 8
                · subst h8k
                  go_wp2_with fail
                  have HR7 := hr6.alloc (.cells (callC x) 27)
                  have HY7 := hx.alloc (.cells (callC x) 27)
                  refine (Err_any _ _ _ _ _ HR7).mono ?_
                  rintro e w8 ⟨rfl, x8⟩
                  have hr8 := HR7.ext x8 (fun x => x)
                  have y8 := HY7.trans x8
                  unfold errV
                  rw [if_neg (by decide)]
                  clear x8
                  go_wp2_with fail
                  have hnx := Next_any g s.size s 132 _ hr8 hP hs
                  rw [show peekN s s.size 132 = (0, false) from dif_neg (by omega), show nextP s s.size 132 = s.size from if_neg (by omega)] at hnx
                  unfold peekV at hnx
                  refine hnx.mono ?_
                  clear hnx
                  rintro e w9 ⟨rfl, hr9, x9⟩
                  have y9 := y8.own x9 m2
                  clear x9 y8 hr8
                  go_wp2_with fail
                  have hlf := Left_any g s.size s 132 _ hr9 hP hs
                  rw [show leftN s s.size 132 = 0 from if_neg (by decide)] at hlf
                  refine hlf.mono ?_
                  clear hlf
                  rintro e w10 ⟨rfl, x10⟩
                  have hr10 := hr9.ext x10 (fun x => x)
                  have y10 := y9.trans x10
                  clear x10 y9 hr9
                  go_wp2_with fail
                  have hen := End_any g s.size s 132 _ hr10 hP
                  rw [stepR_bad (by decide)] at hen
                  refine hen.mono ?_
                  clear hen
                  rintro e w11 ⟨rfl, hr11, x11⟩
                  go_wp2
                  go_ret
                  exact ⟨rfl, (y10.own x11 m2).below⟩
                · have t1 : ((k : Int) == 8) = false := by simp; omega
                  go_wp2_with fail
                  clear d0 d1 d2 d3 d4 d5 d6 d7
                  generalize hwz : World.alloc wr _ = wz
                  have fX : wz.heap[wr.heap.size]? = some (.cells (callC x) 27 (0, 0)) := by rw [← hwz]; exact heap_new _ _
                  have hx1 : Ext G0 wr wz := by rw [← hwz]; exact (Ext.refl _ _).alloc _
                  clear hwz
                  have hca := call_any x g s.size s 132 wz (hr6.ext hx1 (fun x => x)) (hgd.ext hx1) hP hs
                  rw [stepC_bad x (by decide)] at hca
                  have HCA := Lib.hid hca
                  have y3 := hx.trans hx1
                  clear hca hgd hx1 hr6 hx
                  go_wp2_with fail
                  refine HCA.out.mono ?_
                  rintro e w4 ⟨rfl, hr7, x7⟩
                  have y7 := y3.own x7 m2
                  go_wp2
                  go_roundw
                  case rel => exact ⟨k + 1, by omega, by go_num, hr7, y7⟩
                  case measure => simp [intOf]; omega
              · obtain rfl : k = l.length - 8 := by omega
                have HR7 := hr6
                have HY7 := hx
                go_wp2_with fail
                refine (Err_any _ _ _ _ _ HR7).mono ?_
                rintro e w8 ⟨rfl, x8⟩
                have hr8 := HR7.ext x8 (fun x => x)
                have y8 := HY7.trans x8
                unfold errV
                rw [if_neg (by decide)]
                clear x8
                go_wp2_with fail
                have hnx := Next_any g s.size s 132 _ hr8 hP hs
                rw [show peekN s s.size 132 = (0, false) from dif_neg (by omega), show nextP s s.size 132 = s.size from if_neg (by omega)] at hnx
                unfold peekV at hnx
                refine hnx.mono ?_
                clear hnx
                rintro e w9 ⟨rfl, hr9, x9⟩
                have y9 := y8.own x9 m2
                clear x9 y8 hr8
                go_wp2_with fail
                have hlf := Left_any g s.size s 132 _ hr9 hP hs
                rw [show leftN s s.size 132 = 0 from if_neg (by decide)] at hlf
                refine hlf.mono ?_
                clear hlf
                rintro e w10 ⟨rfl, x10⟩
                have hr10 := hr9.ext x10 (fun x => x)
                have y10 := y9.trans x10
                clear x10 y9 hr9
                go_wp2_with fail
                have hen := End_any g s.size s 132 _ hr10 hP
                rw [stepR_bad (by decide)] at hen
                refine hen.mono ?_
                clear hen
                rintro e w11 ⟨rfl, hr11, x11⟩
                go_wp2
                go_ret
                exact ⟨rfl, (y10.own x11 m2).below⟩

/-- With the length told apart. -/
theorem stays_any (s0 : ByteArray) (l : List CallR) (A : Option Addr) (n c : Nat) (at_ : Int) (w : World) (hn : l.length = n) (hv : CallsAt w (.slice A n c) l) (hg : ∀ x ∈ l, x.good w) (hs0 : s0.size ≤ 140737488351232) :
    Calls Try.prog 5 #[.string s0, .slice A n c, .int .i64 at_] w fun e w' => e = .returned (.bool true) ∧ Below w.heap.size w w' := by
  subst hn
  by_cases h : l.length ≤ 8
  · exact stays_few s0 l A c at_ w hv hg hs0 h
  · exact stays_many s0 l A c at_ w hv hg hs0 h

end Go.Proofs.Ytejialnbelleeaa
