/- The plain law of QueriesHide. -/
import Derived.Test.YtlnlkkgcfhngbaaSelAlg
namespace Go.Proofs.Ytlnlkkgcfhngbaa
set_option linter.unusedVariables false
open Go.RowKit

def others (q : List (List Int)) (o : Nat) : List (List Int) := q.take o ++ q.drop (o + 1)
theorem mq_S {n : Nat} {i : Int} (s1 s2 : Int) (hn : n ≤ 64) (hu : unitOk (n : Int) i = true) : (mq (n : Int) i [s1, s2]).length = 3 ∧ ∀ x ∈ mq (n : Int) i [s1, s2], S n x := by
  have e : mq (n : Int) i [s1, s2] = rands (n : Int) [s1, s2] ++ [foldSel (unitSel (n : Int) i) (rands (n : Int) [s1, s2])] := by
    unfold mq mqOk
    rw [hu]
    rfl
  have hr : ∀ x ∈ rands (n : Int) [s1, s2], S n x := fun x hx => by
    simp only [rands, List.mem_map] at hx
    obtain ⟨s, _, rfl⟩ := hx
    exact S.rand s hn
  refine ⟨by rw [e]; rfl, fun x hx => ?_⟩
  rw [e] at hx
  rcases List.mem_append.1 hx with hx | hx
  · exact hr x hx
  · simp at hx
    rw [hx]
    exact (S.unit hu).fold hr
theorem others_S {n : Nat} {q : List (List Int)} (h : ∀ x ∈ q, S n x) (o : Nat) : ∀ x ∈ others q o, S n x := fun x hx => by
  rcases List.mem_append.1 hx with hx | hx
  · exact h x (List.mem_of_mem_take hx)
  · exact h x (List.mem_of_mem_drop hx)
theorem unitOk_of {n : Nat} {i : Int} (h1 : 1 ≤ n) (hn : n ≤ 64) (h2 : 0 ≤ i) (h3 : i < n) : unitOk (n : Int) i = true := by
  unfold unitOk
  exact decide_eq_true (by omega)
theorem es_S {n : Nat} {i : Int} {l : List (List Int)} (hl : ∀ x ∈ l, S n x) (hu : unitOk (n : Int) i = true) : esOk l (n : Int) i = true ∧ es l (n : Int) i = foldSel (unitSel (n : Int) i) l ∧ S n (es l (n : Int) i) := by
  have h1 : esOk l (n : Int) i = true := by unfold esOk; rw [hu, S.all hl]; rfl
  have h2 : es l (n : Int) i = foldSel (unitSel (n : Int) i) l := by unfold es; rw [if_pos h1]
  exact ⟨h1, h2, by rw [h2]; exact (S.unit hu).fold hl⟩
theorem S.sum {n : Nat} {l : List (List Int)} (hl : ∀ x ∈ l, S n x) : sumL l = n * l.length := by
  induction l with
  | nil => rfl
  | cons x l ih =>
    have h1 := (hl x (by simp)).2.1
    have h2 := ih (fun z hz => hl z (by simp [hz]))
    simp only [sumL, List.map_cons, List.sum_cons, List.length_cons, Nat.mul_add, Nat.mul_one] at *
    omega
theorem others_len {q : List (List Int)} {o : Nat} (h : q.length = 3) (ho : o < 3) : (others q o).length = 2 := by
  unfold others
  rw [List.length_append, List.length_take, List.length_drop]
  omega
theorem join_tot {n : Nat} {l : List (List Int)} {v : List Int} (hl : sumL l = n * 2) (h2 : l.length = 2) (hv : v.length = n) (hn : n ≤ 20) : tot (l ++ [v]) ≤ 1048576 := by
  have h := sumL_append l [v]
  have e : sumL [v] = n := by simp [sumL, hv]
  unfold tot
  rw [h, e, hl, List.length_append, h2]
  simp
  omega
end Go.Proofs.Ytlnlkkgcfhngbaa
