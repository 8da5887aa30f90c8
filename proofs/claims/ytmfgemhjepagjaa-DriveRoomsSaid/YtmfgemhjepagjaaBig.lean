/- Many assertions as one. Nothing of the program stands here. -/
import Derived.Test.YtmfgemhjepagjaaSlc
namespace Go.Sl
open Go
section
variable {w0 w : World} {n : Nat} {env : Env} {H : List HProp} {X : Act → World → Prop}
theorem Sat.bigs {L M : List HProp} : Sat w0 w (big L :: M) ↔ Sat w0 w (L ++ M) :=
  ⟨fun s => s.imp fun _ x => big_append.2 x, fun s => s.imp fun _ x => big_append.1 x⟩
theorem Take.mid {A : HProp} : ∀ (L M : List HProp), Take A (L ++ A :: M) (L ++ M)
  | [], _ => .hd
  | B :: L, M => .tl (Take.mid L M)
theorem Sat.mid {A : HProp} {L M R : List HProp} : Sat w0 w (big (L ++ A :: M) :: R) ↔ Sat w0 w (A :: big (L ++ M) :: R) := by
  constructor
  · intro s
    have s1 : Sat w0 w (L ++ A :: (M ++ R)) := by have := Sat.bigs.1 s; rwa [List.append_assoc] at this
    exact (s1.imp fun _ x => (Take.mid L (M ++ R)).go x).imp fun _ x => big_under (fun _ y => by rw [← List.append_assoc] at y; exact big_append.1 y) x
  · intro s
    have s1 : Sat w0 w (A :: (L ++ (M ++ R))) := s.imp fun _ x => big_under (fun _ y => by have := (big_append (L := L ++ M) (M := R)).2 y; rwa [List.append_assoc] at this) x
    have s2 := s1.imp fun _ x => (Take.mid L (M ++ R)).back x
    exact Sat.bigs.2 (by rw [List.append_assoc]; exact s2)
theorem Gs.midOpen {A : HProp} {L M H' : List HProp} (t : Take (big (L ++ A :: M)) H H') (g : Gs w0 n env (A :: big (L ++ M) :: H') X) : Gs w0 n env H X :=
  fun a w e s => g a w e (Sat.mid.1 (s.take t))
theorem Gs.midClose {A : HProp} {L M H1 H' : List HProp} (t : Take A H H1) (u : Take (big (L ++ M)) H1 H') (g : Gs w0 n env (big (L ++ A :: M) :: H') X) : Gs w0 n env H X :=
  fun a w e s => g a w e (Sat.mid.2 ((s.imp fun _ x => big_under (fun _ y => u.go y) (t.go x))))
theorem Gs.bigNil (g : Gs w0 n env (big [] :: H) X) : Gs w0 n env H X := fun a w e s => g a w e (Sat.bigs.2 s)
/-- One more at the end. -/
theorem Gs.endClose {A : HProp} {L H1 H' : List HProp} (t : Take A H H1) (u : Take (big L) H1 H') (g : Gs w0 n env (big (L ++ [A]) :: H') X) : Gs w0 n env H X :=
  Gs.midClose (L := L) (M := []) t (by rw [List.append_nil]; exact u) g
end
end Go.Sl
