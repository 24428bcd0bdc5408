/- slices.SortFunc, as flag.Of calls it: the row is sorted by keys. -/
import Derived.Test.YtdeigahngjoefaaDoorLCmp
import Derived.Test.YtdeigahngjoefaaDoorShelf
import Derived.Lib.QuietBelow
set_option linter.unusedVariables false
set_option linter.unusedSimpArgs false
set_option maxRecDepth 100000
set_option maxHeartbeats 8000000
namespace Go.Proofs.YtdeigahngjoefaaDoor.L
open Go Go.Proofs Go.Dev Go.RowKit
abbrev Fl := { x : Txt // x.length < big }
instance : Inhabited Fl := ⟨⟨[], by decide⟩⟩
def encF (x : Fl) : Value := .string ⟨x.1.toArray⟩
def cf (x y : Fl) : Int := cmpS (fold x.1) (fold y.1)
theorem lt_cf (x y : Fl) : ltOf cf x y = bl (fold x.1) (fold y.1) := by
  unfold ltOf cf cmpS
  by_cases h1 : bl (fold x.1) (fold y.1) = true
  · simp [h1]
  · simp only [Bool.not_eq_true] at h1
    rw [h1]
    by_cases h2 : bl (fold y.1) (fold x.1) = true <;> simp [h2]
theorem swo : Go.Sort.SWO (ltOf cf) := ⟨fun x => by rw [lt_cf]; exact bl_irrefl _, fun x y z h1 h2 => by rw [lt_cf] at *; exact bl_trans _ _ _ h1 h2, fun x y z h1 h2 => by
  rw [lt_cf] at *
  cases h : bl (fold x.1) (fold z.1) with
  | false => rfl
  | true =>
    rcases bl_tri (fold y.1) (fold z.1) with e | e | e
    · rw [e] at h2; cases h2
    · rw [← e, h1] at h; cases h
    · have := bl_trans _ _ _ h e; rw [h1] at this; cases this⟩
theorem sort_is {l : List Fl} {d' : Array Fl} (hd : Dist (l.map (·.1))) (hp : Go.Sort.PermIn 0 l.toArray.size l.toArray d') (hs : Go.Sort.SortedIn (ltOf cf) 0 l.toArray.size d') : d'.toList.map (·.1) = sortF (l.map (·.1)) := by
  obtain ⟨h1, _, h3⟩ := hp
  have hsz : d'.size = l.length := by simpa using h1
  have hperm : d'.toList.Perm l := by
    have e1 : d'.extract 0 l.toArray.size = d' := by rw [← h1]; simp
    rw [e1] at h3
    simpa using h3
  have hperm' : (d'.toList.map (·.1)).Perm (l.map (·.1)) := hperm.map _
  have hdist : Dist (d'.toList.map (·.1)) := (hperm'.map fold).nodup_iff.2 hd
  refine sor_unique ?_ (sortF_sor _ hd) (hperm'.trans (sortF_perm _).symm)
  unfold Sor
  rw [List.pairwise_iff_getElem]
  intro i j hi hj hij
  have hi' : i < d'.size := by simpa using hi
  have hj' : j < d'.size := by simpa using hj
  have := hs i j (Nat.zero_le _) hij (by simp; omega)
  rw [lt_cf, getElem!_pos d' i hi', getElem!_pos d' j hj'] at this
  simp only [List.getElem_map, Array.getElem_toList]
  rcases bl_tri (fold d'[i].1) (fold d'[j].1) with e | e | e
  · exact e
  · exfalso
    unfold Dist at hdist
    have := List.pairwise_iff_getElem.1 hdist i j (by simpa using hi') (by simpa using hj') hij
    simp only [List.getElem_map, Array.getElem_toList] at this
    exact this e
  · rw [this] at e; cases e
theorem grown_of {w w' : World} (h1 : w.heap.size ≤ w'.heap.size) (h2 : ∀ b, b < w.heap.size → w'.heap[b]? = w.heap[b]?) (h3 : Io w w') : ∃ q os', w' = Go.Sort.grow (w.drewN q) os' := by
  obtain ⟨p, hp⟩ := regrown_of_below (w := w) (w' := w') ⟨h3.1, h3.2.1, h3.2.2.1, h1, h2⟩
  have hm : w.drawn ≤ w'.drawn := h3.2.2.2
  refine ⟨w'.drawn - w.drawn, p.os, ?_⟩
  have hd : w'.drawn = p.d := by rw [hp]; rfl
  rw [hp]
  unfold redrawn World.drewN Go.Sort.grow
  simp only
  congr 1
  rw [hd] at hm
  show p.d = w.drawn + (p.d - w.drawn)
  omega
open Go.Sort in
theorem sw_block {w : World} {B o : Nat} {cs : Array Value} {t : TypeId} {fz : Nat × Nat} (hh : w.heap[B]? = some (.cells cs t fz)) (m : Nat) (d : Array Fl) (os : Array Obj) :
    (sortWorld encF w B o m d os).heap[B]? = some (.cells (putCells encF o d cs) t fz) := by
  have hlt : B < w.heap.size := (Array.getElem?_eq_some_iff.1 hh).1
  show ((w.heap.modify B (onCells (putCells encF o d))) ++ os)[B]? = _
  rw [Array.getElem?_append_left (by simpa using hlt), Array.getElem?_modify, if_pos rfl, hh]
  rfl
open Go.Sort in
theorem sw_far {w : World} {B o : Nat} (m : Nat) (d : Array Fl) (os : Array Obj) {k : Nat} (hk : k < w.heap.size) (hne : k ≠ B) : (sortWorld encF w B o m d os).heap[k]? = w.heap[k]? := by
  show ((w.heap.modify B (onCells (putCells encF o d))) ++ os)[k]? = _
  rw [Array.getElem?_append_left (by simpa using hk), Array.getElem?_modify, if_neg (fun e => hne e.symm)]
open Go.Sort in
theorem sw_size {w : World} {B o : Nat} (m : Nat) (d : Array Fl) (os : Array Obj) : w.heap.size ≤ (sortWorld encF w B o m d os).heap.size := by
  show w.heap.size ≤ ((w.heap.modify B (onCells (putCells encF o d))) ++ os).size
  simp
open Go.Sort in
theorem SortF (l : List Txt) (hb : ∀ x ∈ l, x.length < big) (hd : Dist l) (hn : l.length < 4611686018427387904) : Sorts E 28 [.fn 29 []] (l.map Str) ((sortF l).map Str) := .of fun hE => by
  refine ⟨(hasBody Tryd.func28 rfl), fun w ws B o cap cs t fz hG hNG hB hfz hoc hlen hcells hargs => ?_⟩
  obtain rfl : ws = [.func (.func 29) #[] #[]] := by
    cases ws with
    | nil => simp at hargs
    | cons v ws =>
      cases ws with
      | nil => simp [fv] at hargs; rw [hargs]
      | cons => simp at hargs
  let fl : List Fl := l.attach.map fun x => ⟨x.1, hb x.1 x.2⟩
  have hfl : fl.map (·.1) = l := by simp [fl]
  have hfll : fl.length = l.length := by simp [fl]
  have hlB : B < w.heap.size := (Array.getElem?_eq_some_iff.1 hB).1
  have hsize : fl.toArray.size = l.length := by simp [hfll]
  have hel : ∀ (j : Nat) (hj : j < fl.length), cs[o + j]? = some (encF fl[j]) := by
    intro j hj
    obtain ⟨v, h1, h2⟩ := hcells j (Str fl[j].1) (by
      rw [← hfl]
      simp [hj])
    cases h1
    exact h2
  have hC := Tryd.slices_SortFunc encF (fun _ => rfl) cf swo 29 #[] B o cap fl.toArray w (enters_of Tryd.func29 (by kernel_rfl) rfl)
    (fun m os dk hdk x y => by
      have hp := (OfC x.1 y.1 x.2 y.2).run hE
      have hs1 := sw_size (w := w) (B := B) (o := o) m dk os
      have hg : E.G (sortWorld encF w B o m dk os) := hE.glob w _ (fun b hb' => sw_far m dk os (by have : b < E.NG := hb'; omega) (by have : b < E.NG := hb'; omega)) hG
      have hcr : CR (fun _ _ => False) mu0 (sortWorld encF w B o m dk os) [Str x.1, Str y.1] (#[encF x, encF y] ++ #[]) := by
        refine ⟨rfl, fun i c v hc hv => ?_⟩
        match i with
        | 0 => simp at hc hv; subst hc hv; exact .str _
        | 1 => simp at hc hv; subst hc hv; exact .str _
        | i + 2 => simp at hc
      refine (hp.2 (fun _ _ => False) _ _ hg (by omega) (fun _ _ h => h.elim) hcr).mono fun e w' ⟨v, S', he, _, _, _, s4, s5, s6, hv⟩ => ?_
      cases hv
      exact ⟨he, grown_of s4 s5 s6⟩)
    (fun j hj => by
      have hj' : j < fl.length := by simpa using hj
      refine ⟨?_, ?_⟩
      · rw [getElem!_pos fl.toArray j (by simpa using hj')]
        simp [World.cell?, hB, hel j hj']
      · have hlt : o + j < cs.size := (Array.getElem?_eq_some_iff.1 (hel j hj')).1
        obtain ⟨lo, hi⟩ := fz
        simp only [World.frozen?, hB]
        simp only at hfz
        simp only [Bool.and_eq_false_iff, decide_eq_false_iff_not]
        omega) hlB (by rw [hsize]; exact hn)
  rw [hsize] at hC
  rw [List.length_map]
  refine hC.mono fun e w' ⟨he, d', m, os, hp, hso, hw⟩ => ⟨he, ?_⟩
  subst hw
  rw [← hsize] at hp hso
  have hd' := sort_is (by rw [hfl]; exact hd) hp hso
  rw [hfl] at hd'
  have hds : d'.size = l.length := by have := hp.1; rw [hsize] at this; exact this
  refine ⟨_, sw_block hB m d' os, by simp [Go.Sort.putCells], fun i d hi => ?_, fun b h1 h2 => sw_far m d' os h1 h2, sw_size m d' os, ⟨rfl, rfl, rfl, .of (Nat.le_add_right _ _)⟩⟩
  rw [← hd'] at hi
  simp only [List.map_map, List.getElem?_map, Array.getElem?_toList, Option.map_eq_some_iff] at hi
  obtain ⟨x, hx, rfl⟩ := hi
  have hxi := (Array.getElem?_eq_some_iff.1 hx)
  refine ⟨encF x, rfl, ?_⟩
  have hlt : o + i < cs.size := by
    have h3 : i < d'.size := hxi.1
    rw [List.length_map] at hlen
    omega
  unfold Go.Sort.putCells
  rw [Array.getElem?_mapIdx, Array.getElem?_eq_getElem hlt]
  simp only [Option.map_some]
  have h3 : i < d'.size := hxi.1
  rw [if_pos (by omega), show o + i - o = i by omega, getElem!_pos d' i hxi.1, hxi.2]
/-- A call that the evaluator has run, in one fact. -/
theorem ran1 {C : Ctx} {n : Nat} {tab : List Ent} {f : FuncId} {ds : List DV} {d : DV} (hP : C.P = E.P) (hW : World0 C E.G E.NG) (ht : TabOK C E.G E.NG tab) (h : ((Go.Dev.runT C tab n f ds []).bind fun p => (fre p.2 8 p.1).map (·.1)) = some d) : Prim E f ds (.val d) := by
  simp only [Option.bind_eq_some_iff, Option.map_eq_some_iff] at h
  obtain ⟨⟨r, H⟩, h1, ⟨d', us⟩, h2, rfl⟩ := h
  exact Prim.ran hP hW ht h1 h2
theorem SortNil : Prim E 28 [.nils, .fn 29 []] (.val (.tup [])) :=
  ran1 (C := primC Tryd.prog [28, 46, 60] 100 []) (n := 12) (tab := []) rfl (prim_world names (fun e he => by cases he)) .nil (by kernel_rfl)
end Go.Proofs.YtdeigahngjoefaaDoor.L
