/-
  SetBack is true: the walk and the plain law joined.
-/
import Derived.Test.YtejialnbelleeaaDoorSetR
namespace Go.Proofs.YtejialnbelleeaaDoor
open Go Go.RowKit

/-- The bytes of a set, as numbers. -/
def byN (s : Bs) : List Nat := (bytesS s).map (·.val)
theorem byN_lt (s : Bs) : ∀ b ∈ byN s, b < 256 := fun b hb => by
  obtain ⟨x, _, rfl⟩ := List.mem_map.1 hb
  exact x.isLt
theorem byN_flat (s : Bs) : (bytesS s).map byteV = (byN s).flatMap byteL := by
  unfold byN
  rw [List.flatMap_map, List.map_eq_flatMap]
  rfl
theorem byN_length (s : Bs) : (byN s).length = countS s := by rw [byN, List.length_map, bytesS_count]
theorem countS_256 (s : Bs) : countS s ≤ 256 := pcn_le _ _

theorem bytes_at (s : Bs) (w : World) (htab : TabOk w) :
    Calls Tryd.prog 14 #[setV s] w fun e w' => ∃ v, e = .returned v ∧ BytesAt w' v (byN s) ∧ Below w.heap.size w w' := by
  refine (bytes_any s w htab).mono ?_
  rintro e w' ⟨v, rfl, ho, hb⟩
  rw [byN_flat, show (bytesS s).length = (byN s).length by rw [byN, List.length_map]] at ho
  exact ⟨v, rfl, SlAt.of_owns (fun _ _ => rfl) ho (by rw [byN_length]; have := countS_256 s; omega), hb⟩
theorem runs_at (s : Bs) (w : World) (htab : TabOk w) :
    Calls Tryd.prog 11 #[setV s] w fun e w' => ∃ v, e = .returned v ∧ RunsAt w' v (runsS s) ∧ Below w.heap.size w w' := by
  refine (runs_any s w htab).mono ?_
  rintro e w' ⟨v, rfl, ho, hb⟩
  exact ⟨v, rfl, SlAt.of_owns (fun _ _ => rfl) ho (by have := runsS_few s; omega), hb⟩

theorem manyR_bound : ∀ (l : List RunN), (∀ r ∈ l, r.1 < 256 ∧ r.2 < 256) → -256 * (l.length : Int) ≤ manyR l ∧ manyR l ≤ 256 * (l.length : Int) := by
  intro l
  obtain ⟨n, hn⟩ : ∃ n, l.length = n := ⟨_, rfl⟩
  induction n generalizing l with
  | zero => intro _; rw [List.length_eq_zero_iff.1 hn]; simp [manyR]
  | succ n ih =>
    intro h
    rcases List.eq_nil_or_concat l with rfl | ⟨i, r, rfl⟩
    · simp at hn
    rw [List.concat_eq_append] at h hn ⊢
    have h1 := ih i (by simpa using hn) (fun r hr => h r (by simp [hr]))
    have h2 := h r (by simp)
    rw [manyR_snoc, List.length_append, List.length_singleton]
    omega

theorem back_any (a : Bs) (l : List RunN) (A : Option Addr) (n c : Nat) (hl : ∀ r ∈ l, r.1 < 256 ∧ r.2 < 256) (w : World) (htab : TabOk w) (hv : RunsAt w (.slice A n c) l) :
    Calls Tryd.prog 3 #[setV a, .slice A n c] w fun e w' => e = .returned (.bool true) ∧ Below w.heap.size w w' := by
  have hlt : ∀ r ∈ runsS a, r.1 < 256 ∧ r.2 < 256 := runsU_lt _
  have hl' : ∀ r ∈ l.take 130, r.1 < 256 ∧ r.2 < 256 := fun r hr => hl r (List.mem_of_mem_take hr)
  have h128 := runsS_few a
  refine back_walk a (foldS a) (runsS a) l (byN a) A n c w htab hv h128 hlt ?_ (runs_at a) ?_ ?_ (bytes_at a) ?_ (fold_any a) ?_ ?_ (fun v w hv => fromRuns_any _ v w hv hl') ?_
  · intro k hk
    have h1 := manyR_bound ((runsS a).take k) (fun r hr => hlt r (List.mem_of_mem_take hr))
    rw [List.length_take] at h1
    omega
  · intro v w hv
    have := fromRuns_any _ v w hv hlt
    rw [fromS_runs] at this
    exact this
  · intro w
    rw [runsS_many]
    exact count_any a w
  · intro v w hv
    have := of_any _ v w hv (byN_lt a)
    rw [byN, listS_bytes] at this
    exact this
  · intro w ht
    have := fold_any (foldS a) w ht
    rwa [foldS_twice] at this
  · intro v w hv
    have := mand_any (foldS a) [a] v w hv
    simp only [List.foldl_cons, List.foldl_nil, foldS_has] at this
    exact this
  · intro s hs w ht
    have := runs_at s w ht
    rwa [runs_fromS hs hl'] at this

end Go.Proofs.YtejialnbelleeaaDoor
