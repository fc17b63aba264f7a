/- Sorting a slice of pairs by their variables: what slices.SortFunc leaves of a row of the call's own. Condition: variables between 0 and 1048576; fewer than 1000000000 pairs. The walk of the Store's binds. Condition: the Store lies in memory; build's plain function answers for each variable. -/
import Derived.Test.YtplnfepdikbpfaaGreatDoorBD
import Derived.Test.YtplnfepdikbpfaaGreatDoorSort
import Derived.Shelf.SlSortCmp.NoneTotal
import Derived.Test.YtplnfepdikbpfaaGreatDoorUA
namespace Go.Proofs.YtplnfepdikbpfaaGreatDoor
open Go.RowKit Go.Shelf
open Go.Sort (flatK size_flatK get_flatK putRowK HoldsK putRow putCells mapBlock grow SWO PermIn SortedIn)
set_option linter.unusedVariables false
set_option linter.unusedSimpArgs false

/-- A pair whose variable is in range. -/
abbrev BdS := { x : BdI // 0 ≤ x.1 ∧ x.1 ≤ 1048576 }
instance : Inhabited BdS := ⟨⟨(0, .mk 0 [] [] [] 0, none, 0), by decide⟩⟩
def encS (x : BdS) : List Value := encB x.1
theorem encS_len (x : BdS) : (encS x).length = 6 := rfl
theorem encS_one (x : BdS) : ∀ v ∈ encS x, v.oneCell' = true := by
  intro v hv
  simp [encS, encB] at hv
  rcases hv with rfl | rfl | rfl | rfl | rfl | rfl <;> rfl
theorem bds_of {L : List BdI} : (∀ x ∈ L, 0 ≤ x.1 ∧ x.1 ≤ 1048576) → ∃ ds : List BdS, ds.map Subtype.val = L := by
  induction L with
  | nil => exact fun _ => ⟨[], rfl⟩
  | cons x L ih =>
    intro h
    obtain ⟨ds, hd⟩ := ih fun y hy => h y (by simp [hy])
    exact ⟨⟨x, h x (by simp)⟩ :: ds, by simp [hd]⟩
theorem flat_bd (d : Array BdS) : (flatK encS 6 d).toList = bdCells (d.toList.map Subtype.val) := by
  apply List.ext_getElem?
  intro t
  by_cases ht : t < d.size * 6
  · have h1 : (flatK encS 6 d).toList[t]? = some ((encS d[t / 6]!)[t % 6]!) := by
      have := get_flatK encS 6 d t ht
      rw [← this]
      have hs : t < (flatK encS 6 d).size := by rw [size_flatK]; exact ht
      rw [Array.getElem?_toList, Array.getElem?_eq_getElem hs, getElem!_pos _ t hs]
    have hq : t / 6 < d.size := by omega
    have hq2 : t / 6 < (d.toList.map Subtype.val).length := by simpa using hq
    have h2 := bdCells_at (d.toList.map Subtype.val) (t / 6) hq2 (t % 6) (by omega)
    rw [show t / 6 * 6 + t % 6 = t by omega] at h2
    rw [h1, h2, getElem!_pos d (t / 6) hq]
    have e : (d.toList.map Subtype.val)[t / 6] = (d[t / 6]'hq).val := by simp
    rw [e]
    have hm : t % 6 < (encB (d[t / 6]'hq).val).length := by have : (encB (d[t / 6]'hq).val).length = 6 := rfl; omega
    rw [List.getElem?_eq_getElem hm]
    show some ((encB (d[t / 6]'hq).val)[t % 6]!) = _
    rw [getElem!_pos _ (t % 6) hm]
  · rw [List.getElem?_eq_none (by rw [Array.length_toList, size_flatK]; omega), List.getElem?_eq_none (by rw [bdCells_length]; simp; omega)]

def cfB (x y : BdS) : Int := x.1.1 - y.1.1
theorem ltB (x y : BdS) : ltOf cfB x y = decide (x.1.1 < y.1.1) := by
  unfold ltOf cfB
  rw [decide_eq_decide]
  omega
theorem swoB : SWO (ltOf cfB) := by
  refine ⟨fun x => by rw [ltB]; simp, fun x y z h1 h2 => ?_, fun x y z h1 h2 => ?_⟩
  · rw [ltB] at *; simp at *; omega
  · rw [ltB] at *; simp at *; omega

/-- The world that sorting leaves. -/
theorem sort_heap {w w' : World} {blk m : Nat} {d' : Array BdS} {os : Array Obj} (hw : w' = sortWorldK encS 6 w blk 0 m d' os) (hb : blk < w.heap.size) :
    (∀ k, k < w.heap.size → k ≠ blk → w'.heap[k]? = w.heap[k]?) ∧ (∀ cur T fr, w.heap[blk]? = some (.cells cur T fr) → w'.heap[blk]? = some (.cells (putCells id 0 (flatK encS 6 d') cur) T fr)) ∧ w.heap.size ≤ w'.heap.size ∧ w'.os = w.os ∧ w'.tape = w.tape ∧ w'.output = w.output := by
  subst hw
  have hsz : (putRowK encS 6 (Go.Sort.ahead w m) blk 0 d').heap.size = w.heap.size := by simp [putRowK, putRow, mapBlock, Go.Sort.ahead]
  refine ⟨fun k hk hne => ?_, fun cur T fr h => ?_, ?_, rfl, rfl, rfl⟩
  · unfold sortWorldK
    rw [Go.Sort.heap_grow_old _ _ (by rw [hsz]; exact hk)]
    simp [putRowK, putRow, mapBlock, Go.Sort.ahead, Array.getElem?_modify, Ne.symm hne]
  · unfold sortWorldK
    rw [Go.Sort.heap_grow_old _ _ (by rw [hsz]; exact hb)]
    simp [putRowK, putRow, mapBlock, Go.Sort.ahead, Array.getElem?_modify, h, Go.Sort.onCells]
  · unfold sortWorldK
    rw [Go.Sort.size_grow, hsz]
    omega
theorem putCells_take (F cur : Array Value) (h : F.size ≤ cur.size) : (putCells id 0 F cur).toList.take F.size = F.toList := by
  apply List.ext_getElem?
  intro t
  rw [List.getElem?_take]
  by_cases ht : t < F.size
  · rw [if_pos ht, Array.getElem?_toList, Array.getElem?_toList]
    have hc : t < cur.size := by omega
    simp [putCells, Array.getElem?_mapIdx, Array.getElem?_eq_getElem hc, ht]
  · rw [if_neg ht, List.getElem?_eq_none (by simpa using ht)]
theorem putCells_size (F cur : Array Value) : (putCells id 0 F cur).size = cur.size := by simp [putCells]

set_option maxHeartbeats 1000000 in
theorem cmpB_calls (x y : BdS) (w : World) : Calls Tryz.prog 91 #[.agg (encS x).toArray, .agg (encS y).toArray] w fun e w' => e = .returned (.int .i64 (cfB x y)) ∧ ∃ q os', w' = grow (w.drewN q) os' := by
  obtain ⟨⟨a, t, A, c⟩, ha⟩ := x
  obtain ⟨⟨b, u, B, d⟩, hb⟩ := y
  simp only at ha hb
  simp only [encS, encB, cfB]
  go_enter Tryz.func91, Tryz.ntmps91
  go_wp2_with fail
  go_ret
  refine ⟨rfl, 0, #[.cells #[.int .i64 a, .int .i64 t.kind, .string (S t.mod), .string (S t.name), .slice A t.args.length c, .int .i64 t.var] 52, .cells #[.int .i64 b, .int .i64 u.kind, .string (S u.mod), .string (S u.name), .slice B u.args.length d, .int .i64 u.var] 52], ?_⟩
  rw [Go.Sort.alloc_eq_grow, Go.Sort.alloc_eq_grow, Go.Sort.grow_grow]
  rfl

/-- What sorting leaves. -/
def SortPost (w : World) (base : Nat) (ok : Nat → Prop) (v : Value) (bs : List (Int × Ty)) (e : Ending) (w' : World) : Prop :=
  e = .returned (.tuple #[]) ∧ ∃ bs', bs'.Perm bs ∧ bs'.Pairwise (fun a b => ¬ b.1 < a.1) ∧ OwnBd ok w' base v bs' ∧ Tn (fun z => v.ownBlock = some z) w w'
theorem sort_post {w w' : World} {base : Nat} {ok : Nat → Prop} {g cap : Nat} {L : List BdI} (hown : w.ownsRow base 52 6 (.slice (some ⟨g, 0, none⟩) L.length cap) L.length (bdCells L)) (hrd : ∀ x ∈ L, Ok1 x.2.1 ∧ RdL (fun b => ok b ∧ b < w.heap.size ∧ (Value.slice (some ⟨g, 0, none⟩) L.length cap).ownBlock ≠ some b) w (.slice x.2.2.1 x.2.1.args.length x.2.2.2) x.2.1.args)
    {ds : List BdS} (hds : ds.map Subtype.val = L) {d' : Array BdS} {m : Nat} {os : Array Obj} (hp : PermIn 0 ds.toArray.size ds.toArray d') (hs : SortedIn (ltOf cfB) 0 ds.toArray.size d') (hw : w' = sortWorldK encS 6 w g 0 m d' os) :
    SortPost w base ok (.slice (some ⟨g, 0, none⟩) L.length cap) (L.map bdOf) (.returned (.tuple #[])) w' := by
  have hg : g < w.heap.size := (hown.lt g rfl).2
  obtain ⟨k1, k2, k3, k4, k5, k6⟩ := sort_heap hw hg
  obtain ⟨hsz, -, hperm⟩ := hp
  have hex : ∀ (d : Array BdS), d.size = ds.toArray.size → (d.extract 0 ds.toArray.size).toList = d.toList := fun d hd => by rw [← hd]; simp
  rw [hex _ rfl, hex _ hsz] at hperm
  have hpL : (d'.toList.map Subtype.val).Perm L := by
    have := hperm.map Subtype.val
    simpa [hds] using this
  have hlen : (d'.toList.map Subtype.val).length = L.length := hpL.length_eq
  have hT : Tn (fun z => (Value.slice (some ⟨g, 0, none⟩) L.length cap).ownBlock = some z) w w' := ⟨k4, k5, k6, k3, fun k hk hn => k1 k hk (fun e => hn (by subst e; rfl))⟩
  refine ⟨rfl, (d'.toList.map Subtype.val).map bdOf, hpL.map bdOf, ?_, ⟨d'.toList.map Subtype.val, rfl, ?_, fun x hx => ?_⟩, hT⟩
  · rw [List.map_map, List.pairwise_map, List.pairwise_iff_getElem]
    intro i j hi hj hij
    have hi' : i < d'.size := by simpa using hi
    have hj' : j < d'.size := by simpa using hj
    have := hs i j (Nat.zero_le _) hij (by rw [← hsz]; exact hj')
    rw [getElem!_pos d' j hj', getElem!_pos d' i hi', ltB] at this
    have h2 := of_decide_eq_false this
    simpa using h2
  · rw [hlen]
    obtain ⟨h1, ⟨h2, -⟩ | ⟨g', cap', cur, e, h3, h4, h5, h6, h7, h8⟩⟩ := hown
    · cases h2
    · injection e with e1 e2 e3
      injection e1 with e1
      injection e1 with e1
      subst e1 e3
      have hfs : (flatK encS 6 d').size = L.length * 6 := by rw [size_flatK, ← hlen]; simp
      refine ⟨by rw [bdCells_length, hlen], .inr ⟨g, cap, putCells id 0 (flatK encS 6 d') cur, rfl, h3, k2 _ _ _ h4, h5, h6, by rw [putCells_size]; exact h7, ?_⟩⟩
      rw [← flat_bd, ← putCells_take (flatK encS 6 d') cur (by rw [hfs, h7]; exact Nat.mul_le_mul_right 6 h5), hfs]
  · obtain ⟨h1, h2⟩ := hrd x (hpL.mem_iff.1 hx)
    exact ⟨h1, h2.turn (fun b hb => ⟨hb.1, Nat.lt_of_lt_of_le hb.2.1 k3, hb.2.2⟩) fun b o hb => hT.cell hb.2.1 hb.2.2 o⟩
/-- The row, as sorting asks for it. -/
theorem holds_of {w : World} {base g cap : Nat} {L : List BdI} (hown : w.ownsRow base 52 6 (.slice (some ⟨g, 0, none⟩) L.length cap) L.length (bdCells L)) {ds : List BdS} (hds : ds.map Subtype.val = L) : HoldsK encS 6 w g 0 ds.toArray := by
  intro j hj
  have hfl : (flatK encS 6 ds.toArray).toList = bdCells L := by rw [flat_bd]; simp [hds]
  have hc := World.ownsRow.cells hown (g := g) rfl j ((flatK encS 6 ds.toArray)[j]!) (by
    rw [← hfl, Array.getElem?_toList, Array.getElem?_eq_getElem hj, getElem!_pos _ j hj])
  have ha : (⟨g, 0, none⟩ : Addr).add j = ⟨g, 0 + j, none⟩ := by unfold Addr.add; split <;> simp_all
  rw [ha] at hc
  refine ⟨hc, ?_⟩
  obtain ⟨h1, ⟨h2, -⟩ | ⟨g', cap', cur, e, h3, h4, -⟩⟩ := hown
  · cases h2
  · injection e with e1 e2 e3
    injection e1 with e1
    injection e1 with e1
    subst e1
    simp [World.frozen?, h4]

theorem isAggB (w : World) : (isAgg 52).run Tryz.prog w = .ok true w := by kernel_rfl
theorem sizeB (w : World) : (Go.sizeOf 52).run Tryz.prog w = .ok 6 w := by kernel_rfl
theorem cmpLaysB (g n : Nat) (w : World) : CmpLays Tryz.prog 91 #[] encS 6 cfB g 0 n w := fun m os dk _ x y => cmpB_calls x y _
theorem sortB_calls (w : World) (base : Nat) (ok : Nat → Prop) (v : Value) (bs : List (Int × Ty)) (h : OwnBd ok w base v bs) (hr : ∀ y ∈ bs, 0 ≤ y.1 ∧ y.1 ≤ 1048576) (hn : bs.length ≤ 1000000000) :
    Calls Tryz.prog 90 #[v, .func (.func 91) #[] #[]] w (SortPost w base ok v bs) := by
  obtain ⟨L, rfl, hown, hrd⟩ := h
  rcases id hown.2 with ⟨rfl, h0⟩ | ⟨g, cap, cur, rfl, h3, h4, h5, h6, h7, h8⟩
  · have hL : L = [] := List.eq_nil_of_length_eq_zero h0
    subst hL
    have hcon := AnyF.slices_SortFunc_none Tryz.sortB none 0 (.func (.func 91) #[] #[]) w
    change Calls Tryz.prog 90 _ _ _ at hcon
    refine hcon.mono ?_
    rintro e w' ⟨rfl, rfl⟩
    exact ⟨rfl, [], List.Perm.refl _, List.Pairwise.nil, OwnBd.nil _ _ _, Tn.refl _ _⟩
  · obtain ⟨ds, hds⟩ := bds_of (L := L) fun x hx => hr (bdOf x) (List.mem_map_of_mem hx)
    have hg : g < w.heap.size := (hown.lt g rfl).2
    have hsz : L.length = ds.toArray.size := by rw [← hds]; simp
    have hl : L.length ≤ 1000000000 := by simpa using hn
    have hcon := AnyQ.slices_SortFunc Tryz.sortB 6 isAggB sizeB encS (fun _ => rfl) encS_one cfB swoB 91 #[] g 0 cap ds.toArray w (enters_of Tryz.func91 (by kernel_rfl) rfl) (cmpLaysB g _ w) (holds_of hown hds) hg (by omega)
    have hcon' : Calls Tryz.prog 90 #[.slice (some ⟨g, 0, none⟩) L.length cap, .func (.func 91) #[] #[]] w (fun e w' => e = .returned (.tuple #[]) ∧ ∃ d' n os, PermIn 0 ds.toArray.size ds.toArray d' ∧ SortedIn (ltOf cfB) 0 ds.toArray.size d' ∧ w' = sortWorldK encS 6 w g 0 n d' os) := by
      rw [hsz]
      exact hcon
    refine hcon'.mono ?_
    rintro e w' ⟨rfl, d', n, os, hp, hs, hw⟩
    exact sort_post hown hrd hds hp hs hw

end Go.Proofs.YtplnfepdikbpfaaGreatDoor

namespace Go.Proofs.YtplnfepdikbpfaaGreatDoor
open Go.RowKit
open Go.Maps (Keyed)
set_option linter.unusedVariables false
set_option linter.unusedSimpArgs false
attribute [local go_sem ↓] Go.wp_at_zero Go.wp_at_succ

/-- What holds at the head of the loop over the variables. -/
structure BdAt (w : World) (s : Sto) (R : Rows) (r : Nat) (v : Value) (wr : World) (left : Lit → Bool) (cnt : Nat) (bs : List (Int × Ty)) : Prop where
  rg : wr.ranges Tryz.prog 3 (plainElem Tryz.prog 3) R.m r R.mm R.D left cnt
  has : ∀ kl, left kl = true → Maps.has R.D kl = true
  own : OwnBd (fun b => r < b) wr w.heap.size v bs
  bel : Below w.heap.size w wr
  few : bs.length + cnt ≤ s.n
  nod : (bs.map (·.1)).Nodup
  mem : ∀ x, x ∈ bs ↔ (left (.int .i64 x.1) = false ∧ PairOf s x)
  apr : v.ownBlock ≠ some r

theorem bdMem_step {s : Sto} {left : Lit → Bool} {x : Int} {i f : Nat} {t : Ty} {bs : List (Int × Ty)} (hm : ∀ y, y ∈ bs ↔ (left (.int .i64 y.1) = false ∧ PairOf s y)) (hlx : left (.int .i64 x) = true) (hi : s.ofAt x = some i) (hb : buildF f s i = some t) :
    ((t.kind = 6 ∧ t.var = x) → ∀ y, y ∈ bs ↔ ((left (.int .i64 y.1) && !(Lit.int .i64 y.1).sameKey (.int .i64 x)) = false ∧ PairOf s y)) ∧
    (¬ (t.kind = 6 ∧ t.var = x) → (∀ y, y ∈ bs ++ [(x, t)] ↔ ((left (.int .i64 y.1) && !(Lit.int .i64 y.1).sameKey (.int .i64 x)) = false ∧ PairOf s y)) ∧ ((bs.map (·.1)).Nodup → ((bs ++ [(x, t)]).map (·.1)).Nodup)) := by
  have hsk : ∀ y : Int, (Lit.int .i64 y).sameKey (.int .i64 x) = true ↔ y = x := fun y => by simp [Lit.sameKey]
  have hand : ∀ y : Int, (left (.int .i64 y) && !(Lit.int .i64 y).sameKey (.int .i64 x)) = false ↔ (left (.int .i64 y) = false ∨ y = x) := fun y => by
    rw [← hsk y]
    cases left (.int .i64 y) <;> cases (Lit.int .i64 y).sameKey (.int .i64 x) <;> simp
  constructor
  · intro hk y
    rw [hm, hand]
    constructor
    · rintro ⟨h1, h2⟩; exact ⟨.inl h1, h2⟩
    · rintro ⟨h1 | h1, h2⟩
      · exact ⟨h1, h2⟩
      · exfalso
        obtain ⟨j, g, h3, h4, h5⟩ := h2
        rw [h1, hi] at h3
        obtain rfl := Option.some.inj h3
        rw [buildF_one h4 hb, h1] at h5
        exact h5 hk
  · intro hk
    constructor
    · intro y
      rw [List.mem_append, List.mem_singleton, hm, hand]
      constructor
      · rintro (⟨h1, h2⟩ | rfl)
        · exact ⟨.inl h1, h2⟩
        · exact ⟨.inr rfl, i, f, hi, hb, hk⟩
      · rintro ⟨h1 | h1, h2⟩
        · exact .inl ⟨h1, h2⟩
        · exact .inr (PairOf.one h2 ⟨i, f, hi, hb, hk⟩ h1)
    · intro hn
      rw [List.map_append, List.nodup_append]
      refine ⟨hn, by simp, fun a ha b hb' e => ?_⟩
      simp only [List.map_cons, List.map_nil, List.mem_singleton] at hb'
      subst hb' e
      obtain ⟨z, hz, hz2⟩ := List.mem_map.1 ha
      have := ((hm z).1 hz).1
      rw [hz2, hlx] at this
      cases this

def BindsPost (w : World) (L : List (Int × Ty)) (e : Ending) (w' : World) : Prop :=
  ∃ v, e = .returned v ∧ OwnBd (fun b => w.heap.size < b) w' w.heap.size v L ∧ L.length ≤ 1000000000 ∧ Below w.heap.size w w'

set_option maxRecDepth 100000 in
set_option maxHeartbeats 32000000 in
theorem binds_calls (w : World) (base p : Nat) (ok : Nat → Prop) (R : Rows) (s : Sto) (h : StoAt w base p ok R s) (hb : AllBd s) (L : List (Int × Ty)) (hL : BindsIs s L) :
    Calls Tryz.prog 51 #[.pointer (some ⟨p, 0, none⟩)] w (BindsPost w L) := by
  have hp := h.rows.plt
  have hfew := h.few
  have p4 := h.rows.cells.2.2.2.2.1
  have hmsz : Maps.size R.D ≤ s.n := Nat.le_trans h.rows.rm.size_le h.mm
  have H := Lib.hid h; have HB := Lib.hid hb; have HL := Lib.hid hL
  clear h hb hL
  go_enter Tryz.func51, Tryz.ntmps51
  go_wp2_with (first
    | (at_range; refine wpList_range_own _ rfl _ 79 rfl 3 3 intKeys Tryz.underlying79 _ R.m R.mm R.D rfl H.out.rows.rm ?_; intro w6 hrg6 hg6 hs6)
    | go_in)
  go_frame
  obtain ⟨rr, hrr⟩ : ∃ rr, rr = w.heap.size := ⟨_, rfl⟩
  rw [← hrr] at hrg6 hs6 ⊢
  have HRR := Lib.hid hrr; clear hrr
  have hmrr : R.m ≠ rr := fun e => hrg6.ne e.symm
  have HRG6 := Lib.hid hrg6; have HG6 := Lib.hid hg6
  clear hrg6 hg6 hs6 p4
  go_loopw [3] (fun v wr => ∃ (left : Lit → Bool) (cnt : Nat) (bs : List (Int × Ty)), BdAt w s R rr v wr left cnt bs) (fun _ wr => wr.rangeLeft R.m rr)
  case atStart =>
    refine ⟨_, _, [], HRG6.out, fun kl h => h, OwnBd.nil _ _ _, Tn.below (B := w.heap.size) (O := fun _ => False) (Tn.gb HG6.out (fun k e => by cases e)) (Nat.le_refl _) (fun k e => e.elim), by simpa using hmsz, List.nodup_nil, fun x => ⟨fun h => absurd h (by simp), fun h => ?_⟩, by simp [Value.ownBlock]⟩
    obtain ⟨h1, i, f, h2, -⟩ := h
    have := (H.out.of.2 x.1).1
    rw [h2] at this
    rw [this] at h1
    cases h1
  case round =>
    obtain ⟨left, cnt, bs, hU⟩ := hrel
    have hS : StoAt wr base p ok R s := H.out.bel hU.bel
    have hrgw := hU.rg
    obtain ⟨A0, c0, hv0, -⟩ := hU.own.length
    subst hv0
    have HSW := Lib.hid hS; have HU := Lib.hid hU
    clear hS hU
    go_wp2_with (first
      | (at_next; refine wpList_next_ranges_ii _ rfl _ rfl 3 3 .i64 .i64 intKeys Tryz.underlying3 Tryz.underlying3 R.m rr R.mm _ _ _ rfl hrgw ?_ ?_)
      | go_in)
    · intro hc0 hl0
      have hrange : ∀ y ∈ bs, 0 ≤ y.1 ∧ y.1 ≤ 1048576 := fun y hy => by
        obtain ⟨i, f, h1, -⟩ := ((HU.out.mem y).1 hy).2
        have := H.out.sok.ofLt _ (ofAt_mem h1)
        exact this.2
      have hlen : bs.length ≤ 1000000000 := by have := HU.out.few; omega
      have hsc := sortB_calls wr w.heap.size (fun b => rr < b) (.slice A0 bs.length c0) bs HU.out.own hrange hlen
      clear hrange hlen
      go_wp2_with fail
      refine hsc.mono ?_
      rintro e5 w5 ⟨rfl, bs', hperm, hsort, hown5, hT5⟩
      have HP := Lib.hid hperm; have HSO := Lib.hid hsort; have HO5 := Lib.hid hown5; have HT5 := Lib.hid hT5
      clear hperm hsort hown5 hT5 hsc
      go_wp2
      go_ret
      have hnd : (bs'.map (·.1)).Nodup := (HP.out.map (·.1)).nodup_iff.2 HU.out.nod
      have hstrict : bs'.Pairwise (fun a b => a.1 < b.1) := by
        have h1 : bs'.Pairwise (fun a b => a.1 ≠ b.1) := by rw [List.nodup_iff_pairwise_ne, List.pairwise_map] at hnd; exact hnd
        exact List.Pairwise.imp₂ (fun a b h2 h3 => by omega) HSO.out h1
      have heq : bs' = L := sorted_one (·.1) hstrict HL.out.sorted fun x => by
        rw [HP.out.mem_iff, HU.out.mem, HL.out.mem]
        exact ⟨fun h => h.2, fun h => ⟨hl0 _, h⟩⟩
      subst heq
      have hll : bs'.length ≤ 1000000000 := by rw [HP.out.length_eq]; have := HU.out.few; omega
      refine ⟨_, rfl, ?_, hll, Tn.below ((Tn.bel HU.out.bel (fun z => w.heap.size ≤ z)).trans (HT5.out.mono (fun z e => .inl (HU.out.own.lt z e).1))) (Nat.le_refl _) (fun z h => h)⟩
      rw [← HRR.out] at *
      exact HO5.out
    · intro x c w1 cnt1 hwx hwc hlx hat hrg1 hlt hg1 hs1 hen
      have hof := H.out.of.2 x
      rw [HU.out.has _ hlx] at hof
      obtain ⟨i, hi⟩ : ∃ i, s.ofAt x = some i := Option.isSome_iff_exists.1 hof.1.symm
      have hc : c = (i : Int) := by
        have h1 := (hat (.agg [])).symm.trans (hof.2 i hi _)
        simpa using h1
      subst hc
      have hin : i < s.n := (H.out.sok.ofLt _ (ofAt_mem hi)).1
      obtain ⟨f, t, hbt⟩ := HB.out x i hi
      have hbel1 : Below w.heap.size wr w1 := Tn.below (Tn.gb (O := fun k => k = rr) hg1 (fun k e => .inl (Option.some.inj e).symm)) HU.out.bel.size (fun k e => by rw [e, HRR.out]; exact Nat.le_refl _)
      have hS1 : StoAt w1 base p ok R s := H.out.bel (HU.out.bel.trans hbel1)
      have hown1 : OwnBd (fun b => rr < b) w1 w.heap.size (.slice A0 bs.length c0) bs := HU.out.own.turn (Tn.gb (O := fun k => k = rr) hg1 (fun k e => .inl (Option.some.inj e).symm)) (fun k e _ => by subst e; exact ⟨by omega, HU.out.apr⟩)
      have hbc := build_calls base p ok R s f i t w1 hS1 hin hbt
      have HB1 := Lib.hid (HU.out.bel.trans hbel1); have HOWN1 := Lib.hid hown1; have HBT := Lib.hid hbt; have HI := Lib.hid hi; have HRG1 := Lib.hid hrg1; have HLT := Lib.hid hlt; have HLX := Lib.hid hlx; have HRGL := Lib.hid hrgw
      clear hbel1 hS1 hown1 hbt hi hrg1 hlt hlx hat hof hwx hwc hg1 hs1 hrgw
      go_wp2_with fail
      refine hbc.mono ?_
      rintro e2 w2 ⟨A, c, rfl, ⟨hok2, hrd2⟩, hb2⟩
      have hrg2 := ranges_turn HRG1.out (Tn.bel hb2 (fun _ => False)) (fun e => e) (fun e => e)
      have HRG2 := Lib.hid hrg2; have HB2 := Lib.hid hb2; have HOK2 := Lib.hid hok2; have HRD2 := Lib.hid hrd2
      clear hrg2 hb2 hok2 hrd2 hbc hen
      obtain ⟨k, m, nm, xs, v⟩ := t
      have hms := bdMem_step HU.out.mem HLX.out HI.out HBT.out
      have hnd := HU.out.nod
      have hrg2' := HRG2.out
      obtain ⟨w3, hw3⟩ : ∃ w3, w3 = w2.alloc (.cells #[.int .i64 k, .string (S m), .string (S nm), .slice A xs.length c, .int .i64 v] 24) := ⟨_, rfl⟩
      have hrg3 : w3.ranges Tryz.prog 3 (plainElem Tryz.prog 3) R.m rr R.mm R.D (fun z => left z && !z.sameKey (.int .i64 x)) cnt1 := by rw [hw3]; exact hrg2'.alloc _
      have hbel3 : Below w.heap.size w w3 := by rw [hw3]; exact bel_alloc (HB1.out.trans (HB2.out.mono HB1.out.size)) _
      have hown3 : OwnBd (fun b => rr < b) w3 w.heap.size (.slice A0 bs.length c0) bs := by rw [hw3]; exact (HOWN1.out.called HB2.out).called (bel_alloc (Below.refl _ _) _)
      have hfew3 : bs.length + 1 + cnt1 ≤ s.n := by have := HU.out.few; have := HLT.out; omega
      have hrd3 : RdL (fun b => rr < b ∧ b < w3.heap.size ∧ (Value.slice A0 bs.length c0).ownBlock ≠ some b) w3 (.slice A xs.length c) xs := HRD2.out.turn (fun b hb => by
          have h1 := HRG1.out.lt
          have h2 : b < w3.heap.size := by rw [hw3]; simp only [World.size_alloc]; omega
          exact ⟨by omega, h2, fun e => by have := (HOWN1.out.lt b e).2; omega⟩) (fun b o hb => by rw [hw3]; exact (bel_alloc (Below.refl w2.heap.size w2) _).cell (p := ⟨b, o, none⟩) hb.2)
      have HW3 := Lib.hid hw3; have HRG3 := Lib.hid hrg3; have HBEL3 := Lib.hid hbel3; have HOWN3 := Lib.hid hown3; have HFEW3 := Lib.hid hfew3; have HRD3 := Lib.hid hrd3; have HMS := Lib.hid hms; have HND := Lib.hid hnd
      have hl3 : bs.length ≤ 1000000000 := by omega
      have hb3 : w.heap.size ≤ w3.heap.size := hbel3.size
      clear hw3 hrg3 hbel3 hown3 hfew3 hrd3 hms hnd hrg2'
      simp only [tyV, Ty.kind, Ty.mod, Ty.name, Ty.args, Ty.var] at *
      have hout : ¬ (k = 6 ∧ v = x) → ∀ v1 w4, OwnBd (fun b => rr < b) w4 w.heap.size v1 (bs ++ [(x, .mk k m nm xs v)]) → w3.grownBy w4 (Value.slice A0 bs.length c0).ownBlock → (v1.ownBlock = (Value.slice A0 bs.length c0).ownBlock ∨ ∃ g, w3.heap.size ≤ g ∧ v1.ownBlock = some g) → BdAt w s R rr v1 w4 (fun z => left z && !z.sameKey (.int .i64 x)) cnt1 (bs ++ [(x, .mk k m nm xs v)]) := fun hk v1 w4 h1 h2 h3 => by
        have hlo : ∀ z, (Value.slice A0 bs.length c0).ownBlock = some z → w.heap.size ≤ z ∧ z < w3.heap.size := HOWN3.out.lt
        have hrl := HRG3.out.lt
        refine ⟨ranges_turn HRG3.out (Tn.gb (O := fun z => (Value.slice A0 bs.length c0).ownBlock = some z) h2 (fun z e => .inl e)) (fun e => by have := hlo _ e; have := H.out.rows.rm.lt; omega) (fun e => HU.out.apr e), fun kl h => ?_, h1, ?_, by rw [List.length_append, List.length_singleton]; exact HFEW3.out, (HMS.out.2 hk).2 HND.out, (HMS.out.2 hk).1, ?_⟩
        · simp only [Bool.and_eq_true] at h
          exact HU.out.has _ h.1
        · exact Tn.below ((Tn.bel HBEL3.out (fun z => w.heap.size ≤ z)).trans (Tn.gb h2 (fun z e => .inl (hlo z e).1))) (Nat.le_refl _) (fun z h => h)
        · rcases h3 with e | ⟨g, e1, e2⟩
          · rw [e]; exact HU.out.apr
          · rw [e2]; intro e; have := Option.some.inj e; omega
      have HOUT := Lib.hid hout
      clear hout
      by_cases hk : k = 6
      · subst hk
        by_cases hv : v = x
        · have q1 : (v != x) = false := by rw [hv]; simp
          have hA : BdAt w s R rr (.slice A0 bs.length c0) w3 (fun z => left z && !z.sameKey (.int .i64 x)) cnt1 bs := by
            refine ⟨HRG3.out, fun kl h => ?_, HOWN3.out, HBEL3.out, by have := HFEW3.out; omega, HND.out, HMS.out.1 ⟨rfl, hv⟩, HU.out.apr⟩
            simp only [Bool.and_eq_true] at h
            exact HU.out.has _ h.1
          have HA := Lib.hid hA
          clear hA hv
          go_wp2
          rw [← HW3.out]
          go_roundw
          case rel => exact ⟨_, _, bs, HA.out⟩
          case measure => rw [HRG3.out.left_eq, HRGL.out.left_eq]; exact HLT.out
        · have q1 : (v != x) = true := by simp [hv]
          have HO := Lib.hid (HOUT.out (fun e => hv e.2))
          clear hv
          go_wp2_with (at_builtin; rw [← HW3.out]; refine bd_append (fun b => rr < b) w.heap.size rfl (.tmp 29) (.tmp 33) rfl (.slice A0 bs.length c0) bs x (.mk 6 m nm xs v) A c rfl (w2.heap.size + 1) rfl (by rw [HW3.out]; simp) HOWN3.out ⟨HOK2.out, HRD3.out⟩ hb3 hl3 ?_; intro v1 w4 hown4 hg4 hat4)
          have hB4 := HO.out v1 w4 hown4 hg4 hat4
          clear hown4 hg4 hat4
          have HB4 := Lib.hid hB4
          clear hB4
          go_roundw
          case rel => exact ⟨_, _, _, HB4.out⟩
          case measure => rw [HB4.out.rg.left_eq, HRGL.out.left_eq]; exact HLT.out
      · have q1 : (k != 6) = true := by simp [hk]
        have HO := Lib.hid (HOUT.out (fun e => hk e.1))
        clear hk
        go_wp2_with (at_builtin; rw [← HW3.out]; refine bd_append (fun b => rr < b) w.heap.size rfl (.tmp 29) (.tmp 33) rfl (.slice A0 bs.length c0) bs x (.mk k m nm xs v) A c rfl (w2.heap.size + 1) rfl (by rw [HW3.out]; simp) HOWN3.out ⟨HOK2.out, HRD3.out⟩ hb3 hl3 ?_; intro v1 w4 hown4 hg4 hat4)
        have hB4 := HO.out v1 w4 hown4 hg4 hat4
        clear hown4 hg4 hat4
        have HB4 := Lib.hid hB4
        clear hB4
        go_roundw
        case rel => exact ⟨_, _, _, HB4.out⟩
        case measure => rw [HB4.out.rg.left_eq, HRGL.out.left_eq]; exact HLT.out

end Go.Proofs.YtplnfepdikbpfaaGreatDoor
