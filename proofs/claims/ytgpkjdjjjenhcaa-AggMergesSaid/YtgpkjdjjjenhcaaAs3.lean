/- What a least and a greatest value do to a state, in plain terms. -/
import Derived.Test.YtgpkjdjjjenhcaaVal
namespace Go.Proofs.Ytgpkjdjjjenhcaa.Q
open Go.RowKit Go.Proofs.YtgpkjdjjjenhcaaW.PrintWords Go.Proofs.YtgpkjdjjjenhcaaW.PrintLast Go.Proofs.Ytgpkjdjjjenhcaa.Fw Go.Proofs.YtgpkjdjjjenhcaaW.PrintMore
set_option linter.unusedVariables false
set_option linter.unusedSimpArgs false

def takeMin (l m : S28) : S28 := if l.f0 = 0 then m else if mayB l.f0 l.f1 l.f2 l.f3 = true then (if m.f0 = 0 then l else if cmpV l m < 0 then l else m) else m
def takeMax (l m : S28) : S28 := if l.f0 = 0 then m else if mayB l.f0 l.f1 l.f2 l.f3 = true then (if m.f0 = 0 then l else if cmpV l m > 0 then l else m) else m
def flatS (s : S30) : Int × Int × Int × Int × Int × Int × Nat × ByteArray × Int × Int × Nat × ByteArray := (s.f0, s.f1, s.f2.f0, s.f2.f1, s.f3.f0, s.f3.f1, s.f3.f2, s.f3.f3, s.f4.f0, s.f4.f1, s.f4.f2, s.f4.f3)
theorem ends_max (s : S30) (hi : S28) (h2 : hi.f2 < 2 ^ 64) (h4 : s.f4.f2 < 2 ^ 64) (n : Nat) :
    agg_State_ends.j1 (n + 6) s.f0 s.f1 s.f2.f0 s.f2.f1 s.f3.f0 s.f3.f1 s.f3.f2 s.f3.f3 s.f4.f0 s.f4.f1 s.f4.f2 s.f4.f3 hi.f0 hi.f1 hi.f2 hi.f3 = some (flatS { s with f4 := takeMax hi s.f4 }) := by
  simp only [agg_State_ends.j1]
  unfold takeMax
  rw [prog_may hi.f0 hi.f1 hi.f3 h2 (n + 3), prog_cmp hi s.f4 h2 h4 n]
  simp only [Option.bind_some]
  repeat' split
  all_goals rfl
theorem ends_eq (s : S30) (lo hi : S28) (h1 : lo.f2 < 2 ^ 64) (h2 : hi.f2 < 2 ^ 64) (h3 : s.f3.f2 < 2 ^ 64) (h4 : s.f4.f2 < 2 ^ 64) (n : Nat) :
    agg_State_ends.f (n + 7) s.f0 s.f1 s.f2.f0 s.f2.f1 s.f3.f0 s.f3.f1 s.f3.f2 s.f3.f3 s.f4.f0 s.f4.f1 s.f4.f2 s.f4.f3 lo.f0 lo.f1 lo.f2 lo.f3 hi.f0 hi.f1 hi.f2 hi.f3 = some (flatS { s with f3 := takeMin lo s.f3, f4 := takeMax hi s.f4 }) := by
  unfold agg_State_ends.f
  have hj : ∀ b, agg_State_ends.j0 (n + 7) b s.f0 s.f1 s.f2.f0 s.f2.f1 s.f3.f0 s.f3.f1 s.f3.f2 s.f3.f3 s.f4.f0 s.f4.f1 s.f4.f2 s.f4.f3 lo.f0 lo.f1 lo.f2 lo.f3 hi.f0 hi.f1 hi.f2 hi.f3 = some (flatS { s with f3 := if b = true then lo else s.f3, f4 := takeMax hi s.f4 }) := by
    intro b
    simp only [agg_State_ends.j0]
    cases b
    · rw [if_neg (by decide)]; exact ends_max s hi h2 h4 n
    · rw [if_pos rfl]; exact ends_max { s with f3 := lo } hi h2 h4 n
  rw [prog_may lo.f0 lo.f1 lo.f3 h1 (n + 5), prog_cmp lo s.f3 h1 h3 (n + 2)]
  simp only [Option.bind_some, hj]
  unfold takeMin
  by_cases a : lo.f0 = 0
  · rw [if_pos a, if_pos a]; rfl
  · rw [if_neg a, if_neg a]
    by_cases b : mayB lo.f0 lo.f1 lo.f2 lo.f3 = true
    · rw [if_pos b, if_pos b]
      by_cases c : s.f3.f0 = 0
      · rw [if_pos c, if_pos c]; rfl
      · rw [if_neg c, if_neg c]
        by_cases d : cmpV lo s.f3 < 0
        · rw [decide_eq_true d, if_pos d]; rfl
        · rw [decide_eq_false d, if_neg d]; rfl
    · rw [if_neg b, if_neg b]; rfl
end Go.Proofs.Ytgpkjdjjjenhcaa.Q
