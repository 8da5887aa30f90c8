/- slices.SortFunc at keys, by the kit's contracts. -/
import Derived.Test.YthlnjkfahmebjaaDoorCmpD
import Derived.Test.YthlnjkfahmebjaaDoorSrk
import Derived.Test.YthlnjkfahmebjaaDoorLay
namespace Go.Proofs
open Go.Shelf
namespace YthlnjkfahmebjaaDoor
open Go Go.Sl Go.Gv Go.Kv Go.Sort
set_option maxRecDepth 100000
instance : Inhabited Key := ⟨⟨0, 0⟩⟩
theorem ltOf_cfK (x y : Key) : ltOf cfK x y = before x y := by
  unfold ltOf cfK; cases before x y <;> simp
theorem swo_key : SWO (ltOf cfK) where
  irrefl x := by rw [ltOf_cfK]; exact before_irr
  trans x y z h1 h2 := by rw [ltOf_cfK] at *; exact before_trans h1 h2
  ntrans x y z h1 h2 := by rw [ltOf_cfK] at *; rw [before_not] at *; omega
theorem tot_key (x y : Key) (h1 : ltOf cfK x y = false) (h2 : ltOf cfK y x = false) : x = y := by
  rw [ltOf_cfK] at *; rw [before_not] at *
  cases x; cases y; simp at *; omega
theorem sort_spec (a : Option Addr) (c : Nat) (xs : List Key) (hn : xs.Nodup) (hl : xs.length ≤ 100000) : Ct Tryd.prog 30 [.slice a xs.length c, .func (.func 31) #[] #[]] [sl 38 2 keyC a c xs]
    (fun v hs => v = .tuple #[] ∧ hs = [sl 38 2 keyC a c (sortK xs)]) := by
  refine ⟨enters_of Tryd.func30 (by kernel_rfl) rfl _, fun w0 w R s => ?_⟩
  by_cases he : xs = []
  · subst he
    refine (AnyF.slices_SortFunc_none { Tryd.sortKeys with } a c (.func (.func 31) #[] #[]) w).mono ?_
    rintro e w' ⟨rfl, rfl⟩
    exact ⟨_, _, rfl, ⟨rfl, rfl⟩, s⟩
  · obtain ⟨b, off, ha, -⟩ := (SlH.own .hd : SlH w0 ([sl 38 2 keyC a c xs] ++ R) 2 keyC a xs) w s he
    subst ha
    obtain ⟨hH, hb⟩ := sl_holds ek_38 s
    have eg : ∀ args w, (callFunc 31 args).run Tryd.prog w = .ok (.enter 31 args) w := enters_of Tryd.func31 (by kernel_rfl) rfl
    have hS := AnyQ.slices_SortFunc_total (P := Tryd.prog) { Tryd.sortKeys with } 2 Tryd.isAgg38 Tryd.sizeOf38 keyC (fun _ => rfl) ek_38.one cfK swo_key 31 #[] b off c xs.toArray w eg
      (fun m os dk _ x y => (cmp_exact x.o x.q y.o y.q _).mono fun e w' ⟨h1, os', h2⟩ => ⟨h1, 0, os', h2⟩) hH hb (by simp; omega) tot_key
    refine hS.mono ?_
    rintro e w' ⟨rfl, n, os, rfl⟩
    refine ⟨_, _, rfl, ⟨rfl, rfl⟩, ?_⟩
    have hm : (xs.toArray.toList.mergeSort fun x y => !(ltOf cfK) y x) = sortK xs := by
      have e : (fun x y : Key => !(ltOf cfK) y x) = fun x y => !before y x := by funext x y; rw [ltOf_cfK]
      rw [e]; exact sort_merge xs hn
    rw [hm]
    exact sl_sorted ek_38 sortK_length s
end YthlnjkfahmebjaaDoor
end Go.Proofs
