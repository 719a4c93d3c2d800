/- append: what the old slice shows is as it was. -/
import Derived.Test.YtceogegjghmonaaBase
import Derived.Laws.AppendOwn
namespace Go.Proofs.Ytceogegjghmonaa
set_option linter.unusedVariables false
open Go.RowKit

section
variable {P : Program} {t E : TypeId} {z : Value} {bytes : Nat}
def OldKept (v : Value) (cells : List Value) (w' : World) : Prop := ∀ g, v.ownBlock = some g → ∀ j u, cells[j]? = some u → w'.cell? ⟨g, j, none⟩ = some u
theorem run_app_keep (hel : ElT P t E z bytes) (ty : TypeId) (w : World) (v : Value) (n : Nat) (cells : List Value) (hown : w.ownsRow 0 E 1 v n cells) (ad : Addr) (m c : Nat) (news : List Value)
    (hsrc : Src w (some ad) m news) (h1 : ∀ u ∈ news, u.oneCell' = true) (hm : 0 < m) (h63 : n + m ≤ maxLen) (hbytes : (n + m) * bytes ≤ 140737488355328) :
    ∃ v' w', (Builtin.append_ #[t, t] ty #[v, .slice (some ad) m c]).run P w = .ok v' w' ∧ w'.ownsRow 0 E 1 v' (n + m) (cells ++ news) ∧ w.grownBy w' v.ownBlock ∧
      (v'.ownBlock = v.ownBlock ∨ v'.ownBlock = some w.heap.size) ∧ OldKept v cells w' := by
  obtain ⟨v', w', hrun, h2, h3, h5⟩ := run_app hel ty w v n cells hown (some ad) m c news hsrc h1 h63 hbytes
  refine ⟨v', w', hrun, h2, h3, h5, fun g hg j u hu => ?_⟩
  obtain ⟨i, hi, hzz⟩ := Option.map_eq_some_iff.1 hel.hinfo
  simp only [Prod.mk.injEq] at hzz
  obtain ⟨hz, hs, hb⟩ := hzz
  obtain ⟨hl, hc⟩ := hsrc
  have hnews : ∀ j u, news[j]? = some u → w.cell? (ad.add j) = some u := by
    intro j u hu
    obtain ⟨b, off, h, hcc⟩ := hc hm
    injection h with h
    subst h
    rw [addr_add]
    exact hcc j u hu
  rcases hown.2 with ⟨rfl, _⟩ | ⟨g', cap, cur, rfl, hbg, hgg, hnc, hcm, hcs, htake⟩
  · simp [Value.ownBlock] at hg
  · simp [Value.ownBlock] at hg
    subst hg
    have hsmall : n + m ≤ 9223372036854775807 := by simp only [maxLen] at h63; omega
    by_cases hroom : n + m ≤ cap
    · have hr := run_append_room (P := P) w t ty E i hel.ht hi g' n cap cur hgg ad m c news (by rw [hs]; simpa using hl) hnews h1 hroom (by rw [hs, hl]; omega)
      rw [hr] at hrun
      injection hrun with e1 e2
      subst e1
      have := h2.cells (g := g') rfl j u (by rw [List.getElem?_append_left (List.getElem?_eq_some_iff.1 hu).1]; exact hu)
      rwa [addr_add, Nat.zero_add] at this
    · have holds : ∀ j u, cells[j]? = some u → w.cell? ((⟨g', 0, none⟩ : Addr).add j) = some u := hown.cells (g := g') rfl
      have hr := run_append_grow (P := P) w t ty E i z hel.ht hi hz ⟨g', 0, none⟩ n cap cells (by rw [hs]; exact hown.1) holds ad m c news (by rw [hs]; simpa using hl) hnews (by omega) (by omega) (growslice_fits (by omega) (by rw [hb]; exact hbytes))
      rw [hr] at hrun
      injection hrun with e1 e2
      have hlt : g' < w.heap.size := (Array.getElem?_eq_some_iff.1 hgg).1
      have := holds j u hu
      rw [addr_add, Nat.zero_add] at this
      rw [← this, ← e2]
      exact World.cell?_of_block (Below.heap_alloc w.drew _ g' hlt)
theorem wpList_app_keep (hel : ElT P t E z bytes) {w : World} {ops : Array Oper} {rest : List Oper} {o : Oper} {a : Act} {Q : Exit → Act → World → Prop} (hgd : o.guard = none) (s x : Operand)
    (ho : o.op = .call { callee := .builtin .append, args := #[s, x], argTypes := #[t, t] })
    (v : Value) (n : Nat) (cells : List Value) (hs : a.eval s = v) (hown : w.ownsRow 0 E 1 v n cells)
    (ad : Addr) (m c : Nat) (news : List Value) (hx : a.eval x = .slice (some ad) m c) (hsrc : Src w (some ad) m news) (h1 : ∀ u ∈ news, u.oneCell' = true) (hm : 0 < m)
    (h63 : n + m ≤ maxLen) (hbytes : (n + m) * bytes ≤ 140737488355328)
    (h : ∀ v' w', w'.ownsRow 0 E 1 v' (n + m) (cells ++ news) → w.grownBy w' v.ownBlock → (v'.ownBlock = v.ownBlock ∨ v'.ownBlock = some w.heap.size) → OldKept v cells w' → wpList P ops Q rest (a.put o.dst v') w') : wpList P ops Q (o :: rest) a w :=
  wpList_plain hgd fun _ hK => by
    obtain ⟨v', w', hrun, h2, h3, h4, h5⟩ := run_app_keep hel o.type w v n cells hown ad m c news hsrc h1 hm h63 hbytes
    unfold Oper.wp execOp
    simp only [ho, resolve, invoke, builtin, Sem.run_bind, Sem.run_pure, Result.andThen_ok, List.map_toArray, List.map_cons, List.map_nil, hs, hx, hrun]
    exact hK _ _ (h v' w' h2 h3 h4 h5)
end
end Go.Proofs.Ytceogegjghmonaa
