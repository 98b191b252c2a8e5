/-
  TextParts is true: the walk.
-/
import Derived.Test.YtejialnbelleeaaTxtQ0
import Derived.Lib.SlBytesRow
namespace Go.Proofs.Ytejialnbelleeaa
open Go Go.RowKit

theorem ba_of_toList {a b : ByteArray} (h : a.toList = b.toList) : a = b := by
  rw [ByteArray.toList_eq, ByteArray.toList_eq] at h
  exact ByteArray.ext (Array.toList_inj.1 h)
/-- What was read, and what is read next. -/
theorem front_next (s : ByteArray) (p q : Nat) (h : p ≤ q) : s.extract 0 p ++ s.extract p q = s.extract 0 q := (ByteArray.extract_eq_extract_append_extract p (Nat.zero_le _) h).symm
/-- One word is asked: it is met, or it is not. -/
theorem isL_one (s wd : ByteArray) (p : Nat) (hp : p ≤ s.size) : (isL (mets s p 0 [wd]) p = .ok 1 (p + wd.size) ∧ p + wd.size ≤ s.size ∧ s.extract p (p + wd.size) = wd) ∨ isL (mets s p 0 [wd]) p = .ok 0 p := by
  by_cases h : (wd.toList.isEmpty = false ∧ begB (s.extract p s.size) wd = true) ∧ 0 + 1 ≤ 140737488351233 ∧ wd.size ≤ 140737488351232
  · left
    refine ⟨by unfold mets; rw [dif_pos h]; rfl, ?_⟩
    have h2 := h.1.2
    unfold begB at h2
    rw [Bool.and_eq_true] at h2
    have h3 := of_decide_eq_true h2.1
    rw [ByteArray.size_extract] at h3
    refine ⟨by omega, ?_⟩
    have h4 := ba_of_toList (eq_of_beq h2.2)
    rw [ByteArray.extract_extract] at h4
    rw [show min (p + wd.size) s.size = p + wd.size by omega, Nat.add_zero] at h4
    exact h4
  · right
    unfold mets
    rw [dif_neg h]
    rfl
theorem byte_one (s : ByteArray) (p : Nat) (h : p < s.size) : (s.extract p (p + 1)).size = 1 := by rw [ByteArray.size_extract]; omega
theorem byte_first (s : ByteArray) (p : Nat) (h : p < s.size) (i : Nat) (hi : i < (s.extract p (p + 1)).size) : ((s.extract p (p + 1))[i]'hi).toNat = (s[p]'h).toNat := by
  have := byte_one s p h
  obtain rfl : i = 0 := by omega
  simp [ByteArray.getElem_extract]
/-- 'string([]byte{b})'. -/
theorem conv_byte (s : ByteArray) (p : Nat) (h : p < s.size) (wr : World) (t : TypeId) (f : Nat × Nat) :
    (convert 46 9 (.slice (some ⟨wr.heap.size, 0, none⟩) 1 1)).run Try.prog (wr.alloc (.cells #[.int .u8 ((s[p]'h).toNat : Int)] t f)) = .ok (.string (s.extract p (p + 1))) (wr.alloc (.cells #[.int .u8 ((s[p]'h).toNat : Int)] t f)) := by
  have := Lib.run_convert_whole (P := Try.prog) (wr.alloc (.cells #[.int .u8 ((s[p]'h).toNat : Int)] t f)) 46 5 9 Try.underlying46 Try.underlying5 Try.underlying9 wr.heap.size 0 (s.extract p (p + 1)) (fun i hi => by
    rw [byte_first s p h i hi]
    obtain rfl : i = 0 := by have := byte_one s p h; omega
    exact blk_cell (heap_new _ _) 0) 1
  rw [byte_one s p h] at this
  exact this

theorem span_all {b : Nat} (h : b < 256) : (spanS 0 255).getLsbD b = true := by
  unfold spanS; rw [ofP_bit]; simp; omega
/-- All bytes are in the whole span. -/
theorem whileP_all (s : ByteArray) (p : Nat) (hp : p ≤ s.size) : whileP s (spanS 0 255) p = s.size := by
  obtain ⟨n, hn⟩ : ∃ n, n = s.size - p := ⟨_, rfl⟩
  induction n generalizing p with
  | zero => rw [whileP_stop (by omega)]; omega
  | succ n ih =>
    rw [whileP_step (by omega) (span_all (byteA_lt s p)), ih (p + 1) (by omega) (by omega)]

set_option maxRecDepth 100000 in
set_option maxHeartbeats 40000000 in
theorem parts_any (s0 : ByteArray) (l : List CallR) (A : Option Addr) (c : Nat) (w : World) (hv : CallsAt w (.slice A l.length c) l) (hg : ∀ x ∈ l, x.good w) (hs0 : s0.size ≤ 140737488351232) :
    Calls Try.prog 4 #[.string s0, .slice A l.length c] w fun e w' => e = .returned (.bool true) ∧ Below w.heap.size w w' := by
  have hf300 := front_size s0 300
  obtain ⟨s, hsf⟩ : ∃ s, s = front s0 300 := ⟨_, rfl⟩
  rw [← hsf] at hf300
  have hs : s.size ≤ 140737488351232 := by omega
  obtain ⟨_, _, he, ⟨hlc, hlm⟩, hcells⟩ := hv
  injection he with e1 e2 e3
  subst e1 e3
  clear e2
  have HC := Lib.hid hcells
  have HG := Lib.hid hg
  clear hcells hg
  have hcase : (((s0.size : Int) ≤ 300) ∧ s = s0) ∨ ((¬ (s0.size : Int) ≤ 300) ∧ s = s0.extract 0 300) := by
    by_cases h : s0.size ≤ 300
    · exact .inl ⟨by omega, hsf.trans (front_whole h)⟩
    · exact .inr ⟨by omega, hsf.trans (front_part h)⟩
  clear hsf
  go_enter Try.func4, Try.ntmps4
  go_wp2_with fail
  refine (wakes_any _).mono ?_
  rintro e w1 ⟨rfl, x1⟩
  have hmin : ∃ m : Nat, min (s0.size : Int) 300 = (m : Int) ∧ m ≤ s0.size ∧ s = s0.extract 0 m := by
    rcases hcase with ⟨h300, hsq⟩ | ⟨h300, hsq⟩
    · exact ⟨s0.size, by omega, Nat.le_refl _, by rw [hsq, ByteArray.extract_zero_size]⟩
    · exact ⟨300, by omega, by omega, hsq⟩
  clear hcase
  rcases hmin with ⟨m, hm, hml, hsq⟩
  · have HSQ := Lib.hid hsq
    clear hsq
    go_wp2_with fail
    rw [← HSQ.out]
    clear hm hml HSQ
    refine (Of_any _ _).mono ?_
    rintro e w2 ⟨g, rfl, r2, n2, x2⟩
    have y2 := x1.trans x2
    have m2 := Nat.le_trans x1.size n2
    clear x1 x2 n2
    go_wp2_with fail
    go_loopw [6, 26] (fun v i wr => ∃ (k : Nat) (G : ByteArray), k ≤ l.length ∧ i = .int .i64 (k : Int) ∧ v = .string G ∧ G.size ≤ s.size ∧ Hid (s.extract 0 G.size = G) ∧ RdAt wr g s G.size 0 ∧ Ext G0 w wr) (fun _ i _ => l.length - (intOf i).toNat)
    case atStart => exact ⟨0, ⟨#[]⟩, Nat.zero_le _, rfl, rfl, Nat.zero_le _, Lib.hid (ByteArray.ext (by show (s.extract 0 0).data = #[]; rw [ByteArray.data_extract]; simp)), r2, y2⟩
    case round =>
      obtain ⟨k, G, hk, rfl, rfl, hle, hG, hr, hx⟩ := hrel
      clear r2 y2
      by_cases hlt : k < l.length
      · have i1 : (k : Int) < (l.length : Int) := by omega
        rcases HC.out with h | ⟨b, off, hA, hcell⟩
        · rw [h] at hlt; simp at hlt
        subst hA
        obtain ⟨d0, d1, d2, d3, d4, d5, d6, d7⟩ := calls_cells hcell hx hlt
        have hgw := HG.out _ (List.getElem_mem hlt)
        have hgd := hgw.ext hx
        have hgl := hr.lt
        clear hcell
        generalize l[k] = x at *
        have HK := Lib.hid (fun w => kind_any x w)
        by_cases h20 : k = 20
        · subst h20
          go_wp2_with fail
          have HR7 := hr.alloc (.cells (callC x) 27)
          have HY7 := hx.alloc (.cells (callC x) 27)
          clear d0 d1 d2 d3 d4 d5 d6 d7 hr hx
          go_wp2_with fail
          refine (span_any 0 255 _ (by decide) (by decide)).mono ?_
          rintro e w8 ⟨rfl, b8⟩
          have x8 : Ext G0 _ _ := Ext.of_below b8 G0
          have hr8 := HR7.ext x8 (fun x => x)
          have y8 := HY7.trans x8
          clear x8 b8 HR7 HY7
          go_wp2_with fail
          have hwa := While_any g G.size s 0 (spanS 0 255) _ hr8 hle hs
          rw [show stepR G.size 0 (whileR s (spanS 0 255) G.size) = whileR s (spanS 0 255) G.size from if_pos rfl] at hwa
          unfold whileR at hwa
          rw [whileP_all s G.size hle] at hwa
          simp only [Res.val, Res.pos, Res.err] at hwa
          refine hwa.mono ?_
          clear hwa
          rintro e w9 ⟨rfl, hr9, x9⟩
          have y9 := y8.own x9 m2
          clear x9 y8 hr8
          have hfn := front_next s G.size s.size hle
          rw [hG.out, ByteArray.extract_zero_size] at hfn
          have hsx : (s.extract G.size s.size).size ≤ s.size := by rw [ByteArray.size_extract]; omega
          generalize s.extract G.size s.size = more at *
          have tS : ((G ++ more).toList == s.toList) = true := by rw [hfn]; exact beq_self_eq_true _
          clear hfn
          go_wp2_with fail
          have hen := End_any g s.size s 0 _ hr9 (Nat.le_refl _)
          rw [show stepR s.size 0 (endR s s.size) = .ok true s.size from (if_pos rfl).trans (if_neg (by omega))] at hen
          refine hen.mono ?_
          clear hen
          rintro e w10 ⟨rfl, hr10, x10⟩
          have y10 := y9.own x10 m2
          clear x10 y9 hr9
          simp only [Res.pos, Res.err] at hr10
          go_wp2_with fail
          have hlf := Left_any g s.size s 0 _ hr10 (Nat.le_refl _) hs
          rw [show leftN s s.size 0 = 0 from (if_pos rfl).trans (Int.sub_self _)] at hlf
          refine hlf.mono ?_
          clear hlf
          rintro e w11 ⟨rfl, x11⟩
          go_wp2
          go_ret
          exact ⟨rfl, (y10.trans x11).below⟩
        · have t20 : ((k : Int) == 20) = false := by simp; omega
          go_wp2_with fail
          clear d0 d1 d2 d3 d4 d5 d6 d7
          generalize hwz : World.alloc wr _ = wz
          have fX : wz.heap[wr.heap.size]? = some (.cells (callC x) 27 (0, 0)) := by rw [← hwz]; exact heap_new _ _
          have hx1 : Ext G0 wr wz := by rw [← hwz]; exact (Ext.refl _ _).alloc _
          clear hwz
          refine (HK.out _).mono ?_
          rintro e w3 ⟨rfl, x3⟩
          have hx3 := hx1.trans x3
          have gX := ext_heap x3 fX (fun x => x)
          have hr3 := hr.ext hx3 (fun x => x)
          have hgd3 := hgd.ext hx3
          have y3 := hx.trans hx3
          clear hx1 x3 fX hr hgd hx HK hx3
          have hkd : x.kind = 1 ∨ x.kind = 2 ∨ x.kind = 3 ∨ (((x.kind == 1) = false) ∧ ((x.kind == 2) = false) ∧ ((x.kind == 3) = false)) := by
            by_cases a1 : x.kind = 1
            · exact .inl a1
            by_cases a2 : x.kind = 2
            · exact .inr (.inl a2)
            by_cases a3 : x.kind = 3
            · exact .inr (.inr (.inl a3))
            · exact .inr (.inr (.inr ⟨by simp [a1], by simp [a2], by simp [a3]⟩))
          have hwd := word_size x
          have HW := Lib.hid (fun w hg => word_any x w hg)
          obtain ⟨d0, d1, d2, d3, d4, d5, d6, d7⟩ := call_box gX
          generalize x.word = wd at *
          generalize x.kind = kd at *
          rcases hkd with rfl | rfl | rfl | ⟨a1, a2, a3⟩
          · -- Next
            have hnx := Next_any g G.size s 0 w3 hr3 hle hs
            by_cases hps : G.size < s.size
            · have hcv := conv_byte s G.size hps
              have hfn := front_next s G.size (G.size + 1) (by omega)
              rw [hG.out] at hfn
              have hsz : (s.extract 0 (G.size + 1)).size = G.size + 1 := by rw [ByteArray.size_extract]; omega
              rw [show peekN s G.size 0 = ((s[G.size]'hps).toNat, true) from dif_pos ⟨rfl, hps⟩, show nextP s G.size 0 = G.size + 1 from if_pos ⟨rfl, hps⟩, ← hsz] at hnx
              have hG' : Hid (s.extract 0 (s.extract 0 (G.size + 1)).size = s.extract 0 (G.size + 1)) := Lib.hid (by rw [hsz])
              have hbs := byte_one s G.size hps
              unfold peekV at hnx
              generalize (s[G.size]'hps).toNat = bt at *
              generalize s.extract G.size (G.size + 1) = one at *
              generalize s.extract 0 (G.size + 1) = G' at *
              have hle' : G'.size ≤ s.size := by omega
              have HNX := Lib.hid hnx
              have HFN := Lib.hid hfn
              clear hnx hfn
              go_wp2_with fail
              clear d0 d1 d2 d3 d4 d5 d6 d7
              refine HNX.out.mono ?_
              rintro e w5 ⟨rfl, hr5, x5⟩
              have y5 := y3.own x5 m2
              clear y3 x5 hr3 gX
              go_wp2_with fail
              have hr6 := hr5.alloc (.cells #[.int .u8 (bt : Int)] 5)
              have y6 := y5.alloc (.cells #[.int .u8 (bt : Int)] 5)
              clear hr5 y5
              rw [HFN.out]
              clear hG hcv HFN hbs hsz
              have tS : ((s.extract 0 G'.size).toList == G'.toList) = true := by rw [hG'.out]; exact beq_self_eq_true _
              go_wp2_with fail
              refine (At_any _ _ _ _ _ hr6).mono ?_
              rintro e w7 ⟨rfl, rfl⟩
              go_wp2_with fail
              have hlf := Left_any g G'.size s 0 _ hr6 hle' hs
              rw [show leftN s G'.size 0 = (s.size : Int) - (G'.size : Int) from if_pos rfl] at hlf
              refine hlf.mono ?_
              clear hlf
              rintro e w8 ⟨rfl, x8⟩
              have hr8 := hr6.ext x8 (fun x => x)
              have y8 := y6.trans x8
              clear x8
              go_wp2
              go_roundw
              case rel => exact ⟨k + 1, G', by omega, by go_num, rfl, hle', hG', hr8, y8⟩
              case measure => simp [intOf]; omega
            · rw [show peekN s G.size 0 = (0, false) from dif_neg (by omega), show nextP s G.size 0 = G.size from if_neg (by omega)] at hnx
              unfold peekV at hnx
              have HNX := Lib.hid hnx
              clear hnx
              go_wp2_with fail
              clear d0 d1 d2 d3 d4 d5 d6 d7
              refine HNX.out.mono ?_
              rintro e w5 ⟨rfl, hr5, x5⟩
              have y5 := y3.own x5 m2
              clear y3 x5 hr3 gX
              have tS : ((s.extract 0 G.size).toList == G.toList) = true := by rw [hG.out]; exact beq_self_eq_true _
              go_wp2_with fail
              refine (At_any _ _ _ _ _ hr5).mono ?_
              rintro e w7 ⟨rfl, rfl⟩
              go_wp2_with fail
              have hlf := Left_any g G.size s 0 _ hr5 hle hs
              rw [show leftN s G.size 0 = (s.size : Int) - (G.size : Int) from if_pos rfl] at hlf
              refine hlf.mono ?_
              clear hlf
              rintro e w8 ⟨rfl, x8⟩
              have hr8 := hr5.ext x8 (fun x => x)
              have y8 := y5.trans x8
              clear x8
              go_wp2
              go_roundw
              case rel => exact ⟨k + 1, G, by omega, by go_num, rfl, hle, hG, hr8, y8⟩
              case measure => simp [intOf]; omega
          · -- Is
            have hone := isL_one s wd G.size hle
            go_wp2_with fail
            refine (HW.out _ hgd3).mono ?_
            rintro e w4 ⟨rfl, x4⟩
            have hr4 := hr3.ext x4 (fun x => x)
            have gX4 := ext_heap x4 gX (fun x => x)
            have hgd4 := hgd3.ext x4
            have y4 := y3.trans x4
            clear d0 d1 d2 d3 d4 d5 d6 d7 hr3 gX hgd3 y3 x4
            go_wp2_with fail
            have hia := Is_any g G.size s 0 [wd] (some ⟨w4.heap.size, 0, none⟩) 1 (w4.alloc (.cells #[.string wd] 9)) (hr4.alloc _) hle hs (strs_new _ [wd] _ _ rfl (by simp)) (by intro t ht; simp at ht; subst ht; omega)
            rw [show stepR G.size 0 (isL (mets s G.size 0 [wd]) G.size) = isL (mets s G.size 0 [wd]) G.size from if_pos rfl] at hia
            rcases hone with ⟨hq, hin, hwx⟩ | hq
            · rw [hq] at hia
              clear hq
              refine hia.mono ?_
              clear hia
              rintro e w5 ⟨rfl, hr5, x5⟩
              have hx5 : Ext (G1 g) w4 w5 := ((Ext.refl _ _).alloc _).trans x5
              have y5 := y4.own hx5 m2
              have gX5 := ext_heap hx5 gX4 (G1.ne (by omega))
              have hgd5 := hgw.ext y5
              clear hx5 x5 y4 hr4 gX4 hgd4
              simp only [Res.val, Res.pos, Res.err] at hr5 ⊢
              obtain ⟨d0, d1, d2, d3, d4, d5, d6, d7⟩ := call_box gX5
              go_wp2_with fail
              refine (HW.out _ hgd5).mono ?_
              rintro e w6 ⟨rfl, x6⟩
              have hr6 := hr5.ext x6 (fun x => x)
              have y6 := y5.trans x6
              clear d0 d1 d2 d3 d4 d5 d6 d7 hr5 y5 x6 gX5 hgd5
              have hfn := front_next s G.size (G.size + wd.size) (by omega)
              rw [hwx, hG.out] at hfn
              have hsz : (s.extract 0 (G.size + wd.size)).size = G.size + wd.size := by rw [ByteArray.size_extract]; omega
              have hG' : Hid (s.extract 0 (s.extract 0 (G.size + wd.size)).size = s.extract 0 (G.size + wd.size)) := Lib.hid (by rw [hsz])
              have hle' : (s.extract 0 (G.size + wd.size)).size ≤ s.size := by omega
              rw [← hsz] at hr6
              have HFN := Lib.hid hfn
              clear hfn hwx
              generalize s.extract 0 (G.size + wd.size) = G' at *
              go_wp2_with fail
              rw [HFN.out]
              clear hG HFN hsz
              have tS : ((s.extract 0 G'.size).toList == G'.toList) = true := by rw [hG'.out]; exact beq_self_eq_true _
              go_wp2_with fail
              refine (At_any _ _ _ _ _ hr6).mono ?_
              rintro e w7 ⟨rfl, rfl⟩
              go_wp2_with fail
              have hlf := Left_any g G'.size s 0 _ hr6 hle' hs
              rw [show leftN s G'.size 0 = (s.size : Int) - (G'.size : Int) from if_pos rfl] at hlf
              refine hlf.mono ?_
              clear hlf
              rintro e w8 ⟨rfl, x8⟩
              have hr8 := hr6.ext x8 (fun x => x)
              have y8 := y6.trans x8
              clear x8
              go_wp2
              go_roundw
              case rel => exact ⟨k + 1, G', by omega, by go_num, rfl, hle', hG', hr8, y8⟩
              case measure => simp [intOf]; omega
            · rw [hq] at hia
              clear hq
              refine hia.mono ?_
              clear hia
              rintro e w5 ⟨rfl, hr5, x5⟩
              have y5 := y4.own (((Ext.refl _ _).alloc _).trans x5) m2
              clear x5 y4 hr4 gX4
              simp only [Res.val, Res.pos, Res.err] at hr5 ⊢
              have tS : ((s.extract 0 G.size).toList == G.toList) = true := by rw [hG.out]; exact beq_self_eq_true _
              go_wp2_with fail
              refine (At_any _ _ _ _ _ hr5).mono ?_
              rintro e w7 ⟨rfl, rfl⟩
              go_wp2_with fail
              have hlf := Left_any g G.size s 0 _ hr5 hle hs
              rw [show leftN s G.size 0 = (s.size : Int) - (G.size : Int) from if_pos rfl] at hlf
              refine hlf.mono ?_
              clear hlf
              rintro e w8 ⟨rfl, x8⟩
              have hr8 := hr5.ext x8 (fun x => x)
              have y8 := y5.trans x8
              clear x8
              go_wp2
              go_roundw
              case rel => exact ⟨k + 1, G, by omega, by go_num, rfl, hle, hG, hr8, y8⟩
              case measure => simp [intOf]; omega
          · -- While
            have hfn := front_next s G.size (whileP s x.a G.size) (whileF_bd s x.a _ _ hle).1
            rw [hG.out] at hfn
            have hbd : whileP s x.a G.size ≤ s.size := (whileF_bd s x.a _ _ hle).2
            have hsz : (s.extract 0 (whileP s x.a G.size)).size = whileP s x.a G.size := by rw [ByteArray.size_extract]; omega
            have hG' : Hid (s.extract 0 (s.extract 0 (whileP s x.a G.size)).size = s.extract 0 (whileP s x.a G.size)) := Lib.hid (by rw [hsz])
            have hle' : (s.extract 0 (whileP s x.a G.size)).size ≤ s.size := by omega
            have hsx : (s.extract G.size (whileP s x.a G.size)).size ≤ s.size := by rw [ByteArray.size_extract]; omega
            have hwa := While_any g G.size s 0 x.a w3 hr3 hle hs
            rw [show stepR G.size 0 (whileR s x.a G.size) = whileR s x.a G.size from if_pos rfl] at hwa
            unfold whileR at hwa
            simp only [Res.val, Res.pos, Res.err] at hwa
            rw [← hsz] at hwa
            rw [hsz] at hwa
            have HWA := Lib.hid hwa
            have HFN := Lib.hid hfn
            have HSZ := Lib.hid hsz
            clear hwa hfn hsz
            go_wp2_with fail
            clear d0 d1 d2 d3 d4 d5 d6 d7
            refine HWA.out.mono ?_
            rintro e w5 ⟨rfl, hr5, x5⟩
            have y5 := y3.own x5 m2
            clear y3 x5 hr3 gX HWA
            rw [← HSZ.out] at hr5
            have HT := Lib.hid (HFN.out)
            generalize s.extract G.size (whileP s x.a G.size) = more at *
            generalize s.extract 0 (whileP s x.a G.size) = G' at *
            go_wp2_with fail
            rw [HT.out]
            clear hG HFN HT HSZ
            have tS : ((s.extract 0 G'.size).toList == G'.toList) = true := by rw [hG'.out]; exact beq_self_eq_true _
            go_wp2_with fail
            refine (At_any _ _ _ _ _ hr5).mono ?_
            rintro e w7 ⟨rfl, rfl⟩
            go_wp2_with fail
            have hlf := Left_any g G'.size s 0 _ hr5 hle' hs
            rw [show leftN s G'.size 0 = (s.size : Int) - (G'.size : Int) from if_pos rfl] at hlf
            refine hlf.mono ?_
            clear hlf
            rintro e w8 ⟨rfl, x8⟩
            have hr8 := hr5.ext x8 (fun x => x)
            have y8 := y5.trans x8
            clear x8
            go_wp2
            go_roundw
            case rel => exact ⟨k + 1, G', by omega, by go_num, rfl, hle', hG', hr8, y8⟩
            case measure => simp [intOf]; omega
          · -- none of them
            go_wp2_with fail
            clear d0 d1 d2 d3 d4 d5 d6 d7
            have tS : ((s.extract 0 G.size).toList == G.toList) = true := by rw [hG.out]; exact beq_self_eq_true _
            go_wp2_with fail
            refine (At_any _ _ _ _ _ hr3).mono ?_
            rintro e w7 ⟨rfl, rfl⟩
            go_wp2_with fail
            have hlf := Left_any g G.size s 0 _ hr3 hle hs
            rw [show leftN s G.size 0 = (s.size : Int) - (G.size : Int) from if_pos rfl] at hlf
            refine hlf.mono ?_
            clear hlf
            rintro e w8 ⟨rfl, x8⟩
            have hr8 := hr3.ext x8 (fun x => x)
            have y8 := y3.trans x8
            clear x8
            go_wp2
            go_roundw
            case rel => exact ⟨k + 1, G, by omega, by go_num, rfl, hle, hG, hr8, y8⟩
            case measure => simp [intOf]; omega
      · obtain rfl : k = l.length := by omega
        have HR7 := hr
        have HY7 := hx
        clear hr hx
        go_wp2_with fail
        refine (span_any 0 255 _ (by decide) (by decide)).mono ?_
        rintro e w8 ⟨rfl, b8⟩
        have x8 : Ext G0 _ _ := Ext.of_below b8 G0
        have hr8 := HR7.ext x8 (fun x => x)
        have y8 := HY7.trans x8
        clear x8 b8 HR7 HY7
        go_wp2_with fail
        have hwa := While_any g G.size s 0 (spanS 0 255) _ hr8 hle hs
        rw [show stepR G.size 0 (whileR s (spanS 0 255) G.size) = whileR s (spanS 0 255) G.size from if_pos rfl] at hwa
        unfold whileR at hwa
        rw [whileP_all s G.size hle] at hwa
        simp only [Res.val, Res.pos, Res.err] at hwa
        refine hwa.mono ?_
        clear hwa
        rintro e w9 ⟨rfl, hr9, x9⟩
        have y9 := y8.own x9 m2
        clear x9 y8 hr8
        have hfn := front_next s G.size s.size hle
        rw [hG.out, ByteArray.extract_zero_size] at hfn
        have hsx : (s.extract G.size s.size).size ≤ s.size := by rw [ByteArray.size_extract]; omega
        generalize s.extract G.size s.size = more at *
        have tS : ((G ++ more).toList == s.toList) = true := by rw [hfn]; exact beq_self_eq_true _
        clear hfn
        go_wp2_with fail
        have hen := End_any g s.size s 0 _ hr9 (Nat.le_refl _)
        rw [show stepR s.size 0 (endR s s.size) = .ok true s.size from (if_pos rfl).trans (if_neg (by omega))] at hen
        refine hen.mono ?_
        clear hen
        rintro e w10 ⟨rfl, hr10, x10⟩
        have y10 := y9.own x10 m2
        clear x10 y9 hr9
        simp only [Res.pos, Res.err] at hr10
        go_wp2_with fail
        have hlf := Left_any g s.size s 0 _ hr10 (Nat.le_refl _) hs
        rw [show leftN s s.size 0 = 0 from (if_pos rfl).trans (Int.sub_self _)] at hlf
        refine hlf.mono ?_
        clear hlf
        rintro e w11 ⟨rfl, x11⟩
        go_wp2
        go_ret
        exact ⟨rfl, (y10.trans x11).below⟩
/-- With the length told apart. -/
theorem parts_any_n (s0 : ByteArray) (l : List CallR) (A : Option Addr) (n c : Nat) (w : World) (hn : l.length = n) (hv : CallsAt w (.slice A n c) l) (hg : ∀ x ∈ l, x.good w) (hs0 : s0.size ≤ 140737488351232) :
    Calls Try.prog 4 #[.string s0, .slice A n c] w fun e w' => e = .returned (.bool true) ∧ Below w.heap.size w w' := by
  subst hn; exact parts_any s0 l A c w hv hg hs0

end Go.Proofs.Ytejialnbelleeaa
