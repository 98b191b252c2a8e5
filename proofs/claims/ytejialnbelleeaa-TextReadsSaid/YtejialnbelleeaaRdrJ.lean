/-
  The reference's reader: Number.
-/
import Derived.Test.YtejialnbelleeaaRdrE
import Derived.Deep.DeepCutAuto
import Derived.Deep.CutBlock
namespace Go.Proofs.Ytejialnbelleeaa
open Go Go.RowKit

def decV (b : Nat) : Int := if 48 ≤ b ∧ b ≤ 57 then (b : Int) - 48 else -1
set_option maxRecDepth 100000 in
theorem decV_all : ∀ b : Fin 256, digN b.val 10 = decV b.val := by decide
theorem decV_eq {b : Nat} (h : b < 256) : digN b 10 = decV b := decV_all ⟨b, h⟩
theorem valN_dec {s : ByteArray} {q : Nat} : 0 ≤ valN s q ↔ q < s.size ∧ 48 ≤ byteA s q ∧ byteA s q ≤ 57 := by
  unfold valN
  rw [decV_eq (byteA_lt s q)]
  unfold decV
  split
  · split <;> omega
  · omega
theorem valN_val {s : ByteArray} {q : Nat} (h : 0 ≤ valN s q) : valN s q = (byteA s q : Int) - 48 := by
  have h1 := valN_dec.1 h
  unfold valN
  rw [if_pos h1.1, decV_eq (byteA_lt s q)]
  exact if_pos h1.2

def CountRel (s : ByteArray) (p n m : Nat) (w wr : World) : Prop := p + m ≤ s.size ∧ (∀ j, j < m → 0 ≤ valN s (p + j)) ∧ wr.heap[n]? = some (.cells (rdC s p 0) 52 (0, 0)) ∧
  wr.heap[n + 1]? = some (.cells #[.string ByteArray.empty, .int .i64 0, .int .i64 0] 52 (0, 0)) ∧ Ext G0 w wr
def CountEnd (s : ByteArray) (p n m : Nat) (w wr : World) : Prop := CountRel s p n m w wr ∧ valN s (p + m) < 0
def NumRel (s : ByteArray) (p : Nat) (gr : Int) (pl : Bool) (st : Res Int) (h m k : Nat) (n : Int) (w wr : World) : Prop := k ≤ m ∧ 0 ≤ n ∧ (n = 0 ∨ n ≤ gr) ∧ numF s p gr pl (s.size + 1 - (p + k)) (p + k) n = st ∧ wr.heap[h]? = some (.cells (rdC s p 0) 52 (0, 0)) ∧
  wr.heap[h + 1]? = some (.cells #[.string ByteArray.empty, .int .i64 0, .int .i64 0] 52 (0, 0)) ∧ Ext G0 w wr

theorem numF_at {s : ByteArray} {p q : Nat} {gr n : Int} {pl : Bool} (hq : q ≤ s.size) : numF s p gr pl (s.size + 1 - q) q n = if valN s q < 0 then .ok n q else if overN p gr pl q n (valN s q) then .fail q 130 else numF s p gr pl (s.size + 1 - (q + 1)) (q + 1) (10 * n + valN s q) := by
  obtain ⟨e, he⟩ : ∃ e, s.size + 1 - q = e + 1 := ⟨s.size - q, by omega⟩
  rw [he, show s.size + 1 - (q + 1) = e by omega]
  rfl

set_option maxRecDepth 100000 in
set_option maxHeartbeats 2500000 in
theorem rNumber_ok (s : ByteArray) (p : Nat) (gr : Int) (pl : Bool) (w : World) (hp : p ≤ s.size) (hs : s.size ≤ 140737488351232) (hgr : gr ≤ 9223372036854775807) :
    Calls Try.prog 50 #[rdV s p 0, .int .i64 gr, .bool pl] w fun e w' => e = .returned (.tuple #[rdV s (numR s p gr pl).pos (numR s p gr pl).err, .int .i64 ((numR s p gr pl).val 0)]) ∧ Ext G0 w w' := by
  obtain ⟨st, hst⟩ : ∃ st, st = numR s p gr pl := ⟨_, rfl⟩
  rw [← hst]
  replace hst := Lib.hid hst
  replace hgr := Lib.hid hgr
  go_enter Try.func50, Try.ntmps50
  go_upto_block 0 with fail
  generalize hwz : World.alloc (World.alloc w _) _ = wz
  have fR : wz.heap[w.heap.size]? = some (.cells (rdC s p 0) 52 (0, 0)) := by rw [← hwz]; exact heap_past (heap_new w _) _
  have fO : wz.heap[w.heap.size + 1]? = some (.cells (#[.string ByteArray.empty, .int .i64 0, .int .i64 0]) 52 (0, 0)) := by rw [← hwz]; exact heap_two w _ _
  have y0 : Ext G0 w wz := by rw [← hwz]; exact ((Ext.refl _ _).alloc _).alloc _
  clear hwz
  go_cut [8] (fun v wr => ∃ m : Nat, v = .int .i64 (m : Int) ∧ CountEnd s p w.heap.size m w wr)
  case first =>
    go_wp2_with fail
    go_loopg [8] (s.size - p) (fun n v wr => ∃ m : Nat, n = s.size - (p + m) ∧ v = .int .i64 (m : Int) ∧ CountRel s p w.heap.size m w wr)
    case atStart => exact ⟨0, rfl, rfl, hp, fun j hj => by omega, fR, fO, y0⟩
    case round =>
      obtain ⟨m, rfl, rfl, hpm, hD, gR, gO, hx⟩ := hrel
      clear fR fO y0
      obtain ⟨q, hq⟩ : ∃ q : Nat, q = p + m := ⟨_, rfl⟩
      have hqi : (p : Int) + (m : Int) = (q : Int) := by omega
      have s1 := IntWalk.i64_in (q : Int) (by omega)
      have s0 := blk_cell gR 0
      have s2 := blk_cell gR 1
      have s3 := blk_cell gR 2
      by_cases hgo : 0 ≤ valN s q
      · obtain ⟨hql, hb1, hb2⟩ := valN_dec.1 hgo
        have h1 : decide (q < s.size) = true := by simp [hql]
        have i1 : (q : Int) < (s.size : Int) := by omega
        have i4 : q < s.size := hql
        have e1 := byteA_eq hql
        have hbl := byteA_lt s q
        have t1 : decide ((48 : Int) ≤ (byteA s q : Int)) = true := by simp; omega
        have t2 : decide ((byteA s q : Int) ≤ 57) = true := by simp; omega
        have HD := Lib.hid hD
        have HG := Lib.hid hgo
        have HQ := Lib.hid hq
        clear hD hgo hq
        generalize byteA s q = b at *
        go_wp2
        go_roundg (s.size - (p + (m + 1)))
        case rel => exact ⟨m + 1, rfl, by go_num, by have := HQ.out; omega, fun j hj => by
          rcases Nat.lt_succ_iff_lt_or_eq.1 hj with h | rfl
          · exact HD.out j h
          · rw [← HQ.out]; exact HG.out, gR, gO, hx⟩
        case measure => have := HQ.out; omega
      · have hneg : valN s q < 0 := by omega
        have hcase : decide (q < s.size) = false ∨ (q < s.size ∧ decide ((48 : Int) ≤ (byteA s q : Int)) = false) ∨ (q < s.size ∧ decide ((48 : Int) ≤ (byteA s q : Int)) = true ∧ decide ((byteA s q : Int) ≤ 57) = false) := by
          by_cases h1 : q < s.size
          · by_cases h2 : 48 ≤ byteA s q
            · by_cases h3 : byteA s q ≤ 57
              · exact absurd (valN_dec.2 ⟨h1, h2, h3⟩) hgo
              · exact .inr (.inr ⟨h1, by simp; omega, by simp; omega⟩)
            · exact .inr (.inl ⟨h1, by simp; omega⟩)
          · exact .inl (by simp; omega)
        have hbl := byteA_lt s q
        have e1 : ∀ h : q < s.size, ((s[q]'h).toNat : Int) = (byteA s q : Int) := fun h => byteA_eq h
        replace e1 := Lib.hid e1
        have HEND : Hid (CountEnd s p w.heap.size m w wr) := Lib.hid ⟨⟨hpm, hD, gR, gO, hx⟩, by rw [← hq]; exact hneg⟩
        clear hneg hgo hq hD
        generalize byteA s q = b at *
        rcases hcase with t1 | ⟨hql, t1⟩ | ⟨hql, t1, t2⟩
        · go_wp2_with fail
          go_meet
          exact ⟨m, rfl, HEND.out⟩
        · have t0 : decide (q < s.size) = true := by simp [hql]
          have i1 : (q : Int) < (s.size : Int) := by omega
          have e2 := e1.out hql
          go_wp2_with fail
          go_meet
          exact ⟨m, rfl, HEND.out⟩
        · have t0 : decide (q < s.size) = true := by simp [hql]
          have i1 : (q : Int) < (s.size : Int) := by omega
          have e2 := e1.out hql
          go_wp2_with fail
          go_meet
          exact ⟨m, rfl, HEND.out⟩
  case rest =>
    obtain ⟨m, rfl, ⟨hpm, hD, gR, gO, hx⟩, hneg⟩ := hcut
    clear fR fO y0
    have HNEG := Lib.hid hneg
    have HD := Lib.hid hD
    clear hneg hD
    by_cases hm0 : m = 0
    · have hfin : st = .fail p 130 := by
        have h2 := HNEG.out
        rw [hm0, Nat.add_zero] at h2
        rw [hst.out]; exact if_pos h2
      have HFIN := Lib.hid hfin
      have tm : ((m : Int) == 0) = true := by simp [hm0]
      have gR_0 := blk_cell gR 0
      have gR_1 := blk_cell gR 1
      have gR_2 := blk_cell gR 2
      have gRz := blk_free gR
      have gRl := lt_of_block gR
      clear hm0 hfin
      go_wp2_with (go_at_call 62; ((with_reducible refine (rfail_any s p 0 _ 130 _).mono ?_); rintro e w2 ⟨rfl, hx2⟩); replace gR := ext_heap hx2 gR (fun x => x); replace gO := ext_heap hx2 gO (fun x => x); replace hx := hx.trans hx2; have r0 := blk_cell gO 0; have r1 := blk_cell gO 1; have r2 := blk_cell gO 2; have z := blk_free gO; have hlz := lt_of_block gO)
      refine bodyPost_ret (v := .tuple #[rdV s st.pos st.err, .int .i64 (st.val 0)]) (by rw [HFIN.out]; simp [results, Try.results50, go_sem, r0, r1, r2, Res.pos, Res.err, Res.val]) rfl ⟨rfl, ?_⟩
      exact ((hx.set (by simp) _).set (by simp) _).set (by simp) _
    · have tm : ((m : Int) == 0) = false := by simp [hm0]
      have hst2 : numF s p gr pl (s.size + 1 - (p + 0)) (p + 0) 0 = st := by
        rw [hst.out, numR, if_neg (by have := HD.out 0 (by omega); rw [Nat.add_zero] at this; omega)]; rfl
      have HST := Lib.hid hst2
      clear hst2 hm0
      go_wp2_with fail
      go_loopg [53, 9] m (fun nn v x wr => ∃ (k : Nat) (n : Int), nn = m - k ∧ v = .int .i64 (k : Int) ∧ x = .int .i64 n ∧ NumRel s p gr pl st w.heap.size m k n w wr)
      case atStart => exact ⟨0, 0, rfl, rfl, rfl, Nat.zero_le _, by omega, .inl rfl, HST.out, gR, gO, hx⟩
      case round =>
        clear gR gO hx
        obtain ⟨k, n, rfl, rfl, rfl, hk, hn0, hn1, hF, gR, gO, hx⟩ := hrel
        have gR_0 := blk_cell gR 0
        have gR_1 := blk_cell gR 1
        have gR_2 := blk_cell gR 2
        have gRz := blk_free gR
        have gRl := lt_of_block gR
        by_cases hlt : k < m
        · have i2 : k < m := hlt
          obtain ⟨r, hr⟩ : ∃ r : Nat, r = p + k := ⟨_, rfl⟩
          have hri : (p : Int) + (k : Int) = (r : Int) := by omega
          have sr := IntWalk.i64_in (r : Int) (by omega)
          have hv := HD.out k hlt
          rw [← hr] at hv hF
          have hv2 := valN_val hv
          obtain ⟨hrl, hb1, hb2⟩ := valN_dec.1 hv
          rw [numF_at (by omega), if_neg (by omega), hv2] at hF
          have er := byteA_eq hrl
          have ir : (r : Int) < (s.size : Int) := by omega
          generalize byteA s r = c at *
          have HF := Lib.hid hF
          have HR := Lib.hid hr
          have sc : IntKind.u8.wrap ((c : Int) - 48) = (c : Int) - 48 := by rw [IntKind.wrap_u8]; omega
          have ic1 : (0 : Int) ≤ (c : Int) - 48 := by omega
          have ic2 : (c : Int) - 48 < 256 := by omega
          clear hF hv hv2
          by_cases hA : pl = true ∧ k = 1 ∧ n = 0
          · have hfin : st = .fail (p + 1) 130 := by
              have h := HF.out
              rw [if_pos (.inr (.inl ⟨hA.1, by have := HR.out; omega, hA.2.2⟩))] at h
              rw [← h, HR.out, hA.2.1]
            have HFIN := Lib.hid hfin
            have ta := hA.1
            have tb : ((k : Int) == 1) = true := by simp [hA.2.1]
            have tc : (n == 0) = true := by simp [hA.2.2]
            have s9 := IntWalk.i64_in ((p : Int) + 1) (by omega)
            clear hA hfin hr
            subst ta
            go_wp2_with (go_at_call 62; ((with_reducible refine (rfail_any s p 0 _ 130 _).mono ?_); rintro e w2 ⟨rfl, hx2⟩); replace gR := ext_heap hx2 gR (fun x => x); replace gO := ext_heap hx2 gO (fun x => x); replace hx := hx.trans hx2; have r0 := blk_cell gO 0; have r1 := blk_cell gO 1; have r2 := blk_cell gO 2; have z := blk_free gO; have hlz := lt_of_block gO)
            refine bodyPost_ret (v := .tuple #[rdV s st.pos st.err, .int .i64 (st.val 0)]) (by rw [HFIN.out]; simp [results, Try.results50, go_sem, r0, r1, r2, Res.pos, Res.err, Res.val]) rfl ⟨rfl, ?_⟩
            exact (((hx.set (by simp) _).set (by simp) _).set (by simp) _)
          · have hA2 : pl = false ∨ (pl = true ∧ ((k : Int) == 1) = false) ∨ (pl = true ∧ ((k : Int) == 1) = true ∧ (n == 0) = false) := by
              cases hpl : pl with
              | false => exact .inl rfl
              | true =>
                by_cases h1 : k = 1
                · exact .inr (.inr ⟨rfl, by simp [h1], by simp; intro h; exact hA ⟨hpl, h1, h⟩⟩)
                · exact .inr (.inl ⟨rfl, by simp; omega⟩)
            obtain ⟨D, hD2⟩ : ∃ D, D = gr / 10 := ⟨_, rfl⟩
            have hgr2 := hgr.out
            by_cases hE : 0 ≤ gr ∧ ¬ D < n ∧ ¬ gr - 10 * n < (c : Int) - 48
            · have hE1 := hE.1
              have hE2 := hE.2.1
              have hE3 := hE.2.2
              have t6 : decide (gr < 0) = false := by simp; omega
              have t7 : wrap64 (gr.tdiv 10) = D := by rw [Int.tdiv_eq_ediv_of_nonneg hE1, ← hD2]; unfold wrap64; omega
              have t8 : decide (D < n) = false := by simp; omega
              have t9 := IntWalk.i64_in (10 * n) (by omega)
              have t10 := IntWalk.i64_in (gr - 10 * n) (by omega)
              have t11 : decide (gr - 10 * n < (c : Int) - 48) = false := by simp; omega
              have t12 := IntWalk.i64_in (10 * n + ((c : Int) - 48)) (by omega)
              have hov : ¬ overN p gr pl r n ((c : Int) - 48) := by
                rintro (h | h | h | h)
                · omega
                · exact hA ⟨h.1, by have := HR.out; omega, h.2.2⟩
                · omega
                · have := h.1; have := h.2; omega
              have hb5 : 0 ≤ 10 * n + ((c : Int) - 48) := by omega
              have hb6 : 10 * n + ((c : Int) - 48) ≤ gr := by omega
              have HB6 := Lib.hid hb6
              have HOV := Lib.hid hov
              clear hov hA hE hE1 hE2 hE3 hD2 hr hgr2 hn1 hb6
              rcases hA2 with rfl | ⟨rfl, ta⟩ | ⟨rfl, ta, tb⟩
              all_goals
                go_wp2
                go_roundg (m - (k + 1))
                case rel => exact ⟨k + 1, 10 * n + ((c : Int) - 48), rfl, by go_num, rfl, by omega, hb5, .inr HB6.out, by
                  have h := HF.out
                  rw [if_neg HOV.out] at h
                  rw [show p + (k + 1) = r + 1 by have := HR.out; omega]; exact h, gR, gO, hx⟩
                case measure => omega
            · have hfin : st = .fail r 130 := by
                have h := HF.out
                rw [if_pos (by
                  by_cases h0 : 0 ≤ gr
                  · by_cases h1 : D < n
                    · exact .inr (.inr (.inl (by omega)))
                    · exact .inr (.inr (.inr (by omega)))
                  · exact .inl (by omega))] at h
                rw [← h]
              have hf : (decide (gr < 0) = true) ∨ (decide (gr < 0) = false ∧ wrap64 (gr.tdiv 10) = D ∧ decide (D < n) = true) ∨ (decide (gr < 0) = false ∧ wrap64 (gr.tdiv 10) = D ∧ decide (D < n) = false ∧ IntKind.i64.wrap (10 * n) = 10 * n ∧ IntKind.i64.wrap (gr - 10 * n) = gr - 10 * n ∧ decide (gr - 10 * n < (c : Int) - 48) = true) := by
                by_cases h0 : 0 ≤ gr
                · have t7 : wrap64 (gr.tdiv 10) = D := by rw [Int.tdiv_eq_ediv_of_nonneg h0, ← hD2]; unfold wrap64; omega
                  by_cases h1 : D < n
                  · exact .inr (.inl ⟨by simp; omega, t7, by simp; omega⟩)
                  · exact .inr (.inr ⟨by simp; omega, t7, by simp; omega, IntWalk.i64_in (10 * n) (by omega), IntWalk.i64_in (gr - 10 * n) (by omega), by simp; omega⟩)
                · exact .inl (by simp; omega)
              have HFIN := Lib.hid hfin
              clear hfin hA hE hD2 hr hgr2 hn1
              rcases hf with t6 | ⟨t6, t7, t8⟩ | ⟨t6, t7, t8, t9, t10, t11⟩
              all_goals
                rcases hA2 with rfl | ⟨rfl, ta⟩ | ⟨rfl, ta, tb⟩
                all_goals
                  go_wp2_with (go_at_call 62; ((with_reducible refine (rfail_any s p 0 _ 130 _).mono ?_); rintro e w2 ⟨rfl, hx2⟩); replace gR := ext_heap hx2 gR (fun x => x); replace gO := ext_heap hx2 gO (fun x => x); replace hx := hx.trans hx2; have r0 := blk_cell gO 0; have r1 := blk_cell gO 1; have r2 := blk_cell gO 2; have z := blk_free gO; have hlz := lt_of_block gO)
                  refine bodyPost_ret (v := .tuple #[rdV s st.pos st.err, .int .i64 (st.val 0)]) (by rw [HFIN.out]; simp [results, Try.results50, go_sem, r0, r1, r2, Res.pos, Res.err, Res.val]) rfl ⟨rfl, ?_⟩
                  exact (((hx.set (by simp) _).set (by simp) _).set (by simp) _)
        · have hkm : k = m := by omega
          have hfin : st = .ok n (p + m) := by
            rw [← hF, hkm, numF_at (by omega), if_pos (by exact HNEG.out)]
          have HFIN := Lib.hid hfin
          have i3 : ¬ k < m := hlt
          have s4 := IntWalk.i64_in ((p : Int) + (m : Int)) (by omega)
          have c0 := blk_cell gO 0
          have c1 := blk_cell gO 1
          have c2 := blk_cell gO 2
          have z := blk_free gO
          have hlz := lt_of_block gO
          clear hF hfin hkm hn1
          go_wp2
          refine bodyPost_ret (v := .tuple #[rdV s st.pos st.err, .int .i64 (st.val 0)]) (by rw [HFIN.out]; simp [results, Try.results50, go_sem, c0, c1, c2, Res.pos, Res.err, Res.val]) rfl ⟨rfl, ?_⟩
          exact ((((hx.set (by simp) _).set (by simp) _).set (by simp) _).set (by simp) _)

set_option maxHeartbeats 1500000 in
theorem rNumber_any (s : ByteArray) (p : Nat) (er gr : Int) (pl : Bool) (w : World) (hp : p ≤ s.size) (hs : s.size ≤ 140737488351232) (hgr : gr ≤ 9223372036854775807) :
    Calls Try.prog 50 #[rdV s p er, .int .i64 gr, .bool pl] w fun e w' => e = .returned (.tuple #[rdV s (stepR p er (numR s p gr pl)).pos (stepR p er (numR s p gr pl)).err, .int .i64 ((stepR p er (numR s p gr pl)).val 0)]) ∧ Ext G0 w w' := by
  by_cases he : er = 0
  · subst he
    rw [show stepR p 0 (numR s p gr pl) = numR s p gr pl from if_pos rfl]
    exact rNumber_ok s p gr pl w hp hs hgr
  · have t1 : (er != 0) = true := by simp [he]
    rw [show stepR p er (numR s p gr pl) = .fail p er from if_neg he]
    clear hgr
    go_enter Try.func50, Try.ntmps50
    go_wp2
    refine bodyPost_ret (v := .tuple #[rdV s p er, .int .i64 0]) (by simp [results, Try.results50, go_sem]) rfl ⟨rfl, ?_⟩
    exact ((Ext.refl _ _).alloc _).alloc _

end Go.Proofs.Ytejialnbelleeaa
