/- slices.SortFunc at keys, by the kit's contracts; keys may come twice. -/
import Derived.Test.YtonilkceolbkmaaPoK
namespace Go.Proofs
open Go.Shelf
namespace Ytonilkceolbkmaa
open Go Go.Sl Go.Gv Go.Kv Go.Sort Go.Po
set_option maxRecDepth 100000
instance : Inhabited Key := ⟨⟨0, 0⟩⟩
def cfO (a b : Key) : Int := ordZ a b
theorem ltOf_cfO (x y : Key) : ltOf cfO x y = before x y := by
  unfold ltOf cfO; exact ordZ_lt
theorem swo_keyO : SWO (ltOf cfO) where
  irrefl x := by rw [ltOf_cfO]; exact before_irr
  trans x y z h1 h2 := by rw [ltOf_cfO] at *; exact before_trans h1 h2
  ntrans x y z h1 h2 := by rw [ltOf_cfO] at *; rw [before_not] at *; omega
theorem tot_keyO (x y : Key) (h1 : ltOf cfO x y = false) (h2 : ltOf cfO y x = false) : x = y := by
  rw [ltOf_cfO] at *; rw [before_not] at *
  cases x; cases y; simp at *; omega
/-- In order, each as often as it is there. -/
def sortM (l : List Key) : List Key := l.mergeSort fun x y => !before y x
theorem sortM_length {l : List Key} : (sortM l).length = l.length := List.length_mergeSort ..
theorem sortO_spec (a : Option Addr) (c : Nat) (xs : List Key) (hl : xs.length ≤ 100000) : Ct Try.prog 33 [.slice a xs.length c, .func (.func 34) #[] #[]] [sl 34 2 keyC a c xs]
    (fun v hs => v = .tuple #[] ∧ hs = [sl 34 2 keyC a c (sortM xs)]) := by
  refine ⟨enters_of Try.func33 (by kernel_rfl) rfl _, fun w0 w R s => ?_⟩
  by_cases he : xs = []
  · subst he
    refine (AnyF.slices_SortFunc_none { Try.sortKeys with } a c (.func (.func 34) #[] #[]) w).mono ?_
    rintro e w' ⟨rfl, rfl⟩
    exact ⟨_, _, rfl, ⟨rfl, rfl⟩, by rw [show sortM ([] : List Key) = [] from List.mergeSort_nil]; exact s⟩
  · obtain ⟨b, off, ha, -⟩ := (SlH.own .hd : SlH w0 ([sl 34 2 keyC a c xs] ++ R) 2 keyC a xs) w s he
    subst ha
    obtain ⟨hH, hb⟩ := sl_holds ek_34 s
    have eg : ∀ args w, (callFunc 34 args).run Try.prog w = .ok (.enter 34 args) w := enters_of Try.func34 (by kernel_rfl) rfl
    have hS := AnyQ.slices_SortFunc_total (P := Try.prog) { Try.sortKeys with } 2 Try.isAgg34 Try.sizeOf34 keyC (fun _ => rfl) ek_34.one cfO swo_keyO 34 #[] b off c xs.toArray w eg
      (fun m os dk _ x y => (or1_exact x.o x.q y.o y.q _).mono fun e w' ⟨h1, os', h2⟩ => ⟨h1, 0, os', h2⟩) hH hb (by simp; omega) tot_keyO
    refine hS.mono ?_
    rintro e w' ⟨rfl, n, os, rfl⟩
    refine ⟨_, _, rfl, ⟨rfl, rfl⟩, ?_⟩
    have hm : (xs.toArray.toList.mergeSort fun x y => !(ltOf cfO) y x) = sortM xs := by
      have e : (fun x y : Key => !(ltOf cfO) y x) = fun x y => !before y x := by funext x y; rw [ltOf_cfO]
      rw [e]; rfl
    rw [hm]
    exact sl_sorted ek_34 sortM_length s
end Ytonilkceolbkmaa
end Go.Proofs
