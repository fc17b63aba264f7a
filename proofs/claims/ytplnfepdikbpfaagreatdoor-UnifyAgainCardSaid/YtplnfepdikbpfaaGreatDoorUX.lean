/- The walks of strings.Builder's copyCheck and WriteString, after the library's own shelf. Condition: the new length takes at most 2^47 bytes. A strings.Builder of the call's own, said of a list of bytes: fresh, written, read. Condition: at most 2^47 bytes. The walk of the token package's Lex. No condition but that the string is no longer than an int can tell. The walks of the token package's joined. '==' and '!=' of two tokens, as the model runs them. No condition. The walk of slices.Equal at tokens. Condition: both slices read as tokens. The walks of the token package's Text, are, IsToken, Apart, IsTrivia, Great. Condition: a slice reads as tokens. The walks of the token package's are, IsToken, Apart, IsTrivia, Great. Condition: a slice reads as tokens. The walks of the token package's Solid and At. Condition: the slice reads as tokens, fewer than a million. The walk of the token package's At. Condition: the slice reads as tokens; the offset is an int. The walk of the token package's Number. Condition: the library's variable for a number out of range holds an error. -/
import Derived.Test.YtplnfepdikbpfaaGreatDoorBase
import Derived.Test.YtplnfepdikbpfaaGreatDoorShelf
import Derived.Lib.Builder
import Derived.Lib.AppendStr
import Derived.Laws.Externs
import Derived.Lib.UnsafeStr
import Derived.Test.YtplnfepdikbpfaaGreatDoorV
import Derived.Test.YtplnfepdikbpfaaGreatDoorA
import Derived.Laws.StructEq
import Derived.Deep.QuietTactic
import Derived.Lib.AtoiErrMem
namespace Go.Proofs.YtplnfepdikbpfaaGreatDoor
open Go.RowKit
set_option linter.unusedVariables false
set_option linter.unusedSimpArgs false

theorem sizeBuilder : (Tryz.prog.info? 103).map (·.size) = some 2 := by kernel_rfl
theorem liesBuilder : liesAt Tryz.prog Tryz.prog.depth 103 (2 / Tryz.prog.cellsOf 103) 0 103 1 = true := by kernel_rfl
theorem infoByte : (Tryz.prog.info? 5).map (fun i => (i.zero, i.size, i.bytes)) = some (some (.int .u8 0), 1, 1) := by kernel_rfl

set_option maxHeartbeats 1000000 in
set_option maxRecDepth 100000 in
theorem copyCheck_used (b : Nat) (w : World) (h0 : w.cell? ⟨b, 0, none⟩ = some (.pointer (some ⟨b, 0, none⟩))) :
    Calls Tryz.prog 131 #[.pointer (some ⟨b, 0, none⟩)] w fun e w' => e = .returned (.tuple #[]) ∧ w = w' := by
  obtain ⟨j, hj, _⟩ := Option.map_eq_some_iff.1 sizeBuilder
  go_enter Tryz.func131, Tryz.ntmps131
  go_wp2
  rw [Lib.run_neq_ptr_same w _ Tryz.underlying100 hj]
  go_wp2
  go_end0
  exact ⟨rfl, rfl⟩

set_option maxHeartbeats 1000000 in
set_option maxRecDepth 100000 in
theorem copyCheck_fresh (b : Nat) (w : World) (h0 : w.cell? ⟨b, 0, none⟩ = some (.pointer none)) (hsh : w.shape? b = some (103, 2)) (hfz : w.frozen? ⟨b, 0, none⟩ = false) :
    Calls Tryz.prog 131 #[.pointer (some ⟨b, 0, none⟩)] w fun e w' => e = .returned (.tuple #[]) ∧ w.setCell ⟨b, 0, none⟩ (.pointer (some ⟨b, 0, none⟩)) = w' := by
  obtain ⟨j, hj, hjs⟩ := Option.map_eq_some_iff.1 sizeBuilder
  go_enter Tryz.func131, Tryz.ntmps131
  go_wp2
  rw [Lib.run_to_unsafe w ⟨b, 0, none⟩ Tryz.underlying100 Tryz.underlying199 hj (by rw [hjs]; decide) hsh (Nat.zero_lt_succ 1)]
  simp only [Result.andThen]
  rw [Oper.upon_value]
  go_wp2
  rw [run_callFunc_extern Tryz.func161 (by kernel_rfl) (by kernel_rfl) (by kernel_rfl) (e := Extern.AbiNoEscape.same) (by kernel_rfl)]
  rw [Lib.run_noEscape]
  simp only [Result.andThen]
  rw [Oper.upon_value]
  go_wp2
  rw [Lib.run_from_unsafe w ⟨b, 0, none⟩ Tryz.underlying199 Tryz.underlying100 hj hsh liesBuilder]
  simp only [Result.andThen]
  rw [Oper.upon_value]
  go_wp2
  go_end0
  exact ⟨rfl, rfl⟩

theorem copyCheck_calls (B b : Nat) (bs : List Value) (w : World) (h : Lib.IsBuilder 103 5 B b bs w) :
    Calls Tryz.prog 131 #[.pointer (some ⟨b, 0, none⟩)] w fun e w' => e = .returned (.tuple #[]) ∧ (Lib.BuilderAt 103 5 B b (.pointer (some ⟨b, 0, none⟩)) bs w' ∧ Below B w w') := by
  rcases h with h | h
  · refine (copyCheck_fresh b w h.cell0 h.shape h.frozen0).mono ?_
    rintro e w' ⟨rfl, rfl⟩
    exact ⟨rfl, h.used _, (Below.refl B w).setCell (p := ⟨b, 0, none⟩) h.1 _⟩
  · refine (copyCheck_used b w h.cell0).mono ?_
    rintro e w' ⟨rfl, rfl⟩
    exact ⟨rfl, h, Below.refl B _⟩

set_option maxHeartbeats 2000000 in
theorem builderWriteString (B b : Nat) (bs : List Value) (s : ByteArray) (w : World) (h : Lib.IsBuilder 103 5 B b bs w) (hlen : bs.length + s.size ≤ 140737488355328) (hBw : B ≤ w.heap.size) :
    Calls Tryz.prog 110 #[.pointer (some ⟨b, 0, none⟩), .string s] w fun e w' => e = .returned (.tuple #[.int .i64 s.size, .nilIface]) ∧ (Lib.BuilderAt 103 5 B b (.pointer (some ⟨b, 0, none⟩)) (bs ++ Lib.strCells s) w' ∧ Below B w w') := by
  obtain ⟨i0, hi, hz0, hz1, hz2⟩ := info_parts infoByte
  go_enter Tryz.func110, Tryz.ntmps110
  go_wp2_with (go_at_call 131; refine (copyCheck_calls B b bs _ h).mono ?_)
  rintro e w1 ⟨rfl, h1, hb1⟩
  obtain ⟨hB, v, hbk, hown, hne⟩ := h1
  have c0 : w1.cell? ⟨b, 0, none⟩ = some (.pointer (some ⟨b, 0, none⟩)) := by rw [Lib.cell_of_heap hbk]; rfl
  have c1 : w1.cell? ⟨b, 1, none⟩ = some v := by rw [Lib.cell_of_heap hbk]; rfl
  go_wp2_with (at_builtin; refine Lib.wpList_append_own_string _ rfl _ _ 101 9 rfl B 5 i0 Tryz.underlying101 Tryz.underlying9 hi hz0 hz1 hz2 _ _ _ rfl hown s rfl ?c3 ?c4 ?c5 ?_)
  case c3 => unfold maxLen; omega
  case c4 => omega
  case c5 => have := hb1.size; omega
  intro v' w2 hown' hgrow _
  have hlt : b < w1.heap.size := by
    rcases Nat.lt_or_ge b w1.heap.size with h' | h'
    · exact h'
    · simp [Array.getElem?_eq_none h'] at hbk
  have hb2 : w2.heap[b]? = some (.cells #[.pointer (some ⟨b, 0, none⟩), v] 103 (0, 0)) := by
    rw [hgrow.block b hlt (fun e => hne e.symm)]
    exact hbk
  have d0 : w2.cell? ⟨b, 0, none⟩ = some (.pointer (some ⟨b, 0, none⟩)) := by rw [Lib.cell_of_heap hb2]; rfl
  have d1 : w2.cell? ⟨b, 1, none⟩ = some v := by rw [Lib.cell_of_heap hb2]; rfl
  have f1 : w2.frozen? ⟨b, 1, none⟩ = false := Lib.frozen_of_heap hb2 1
  obtain ⟨ao, n', cap, rfl⟩ : ∃ ao n' cap, v' = .slice ao n' cap := by
    rcases hown'.2 with ⟨hv, _⟩ | ⟨g, cap, cur, hv, _⟩
    · exact ⟨_, _, _, hv⟩
    · exact ⟨_, _, _, hv⟩
  go_wp2
  go_ret2
  refine ⟨rfl, ?_, ?_⟩
  · exact Lib.BuilderAt.put (T := 103) (e := 5) hB hb2 (bs' := bs ++ Lib.strCells s) (by simpa [Lib.strCells_length] using hown') (by decide)
  · exact (hb1.grown hgrow (by have := hb1.size; omega) (fun k hk => (hown.lt k hk).1)).setCell (p := ⟨b, 1, none⟩) hB _

end Go.Proofs.YtplnfepdikbpfaaGreatDoor

namespace Go.Proofs.YtplnfepdikbpfaaGreatDoor
open Go.RowKit
set_option linter.unusedVariables false
set_option linter.unusedSimpArgs false

/-- Block b, one of the call's own (from B on), is a builder that holds these bytes. -/
def BuildL (B b : Nat) (l : List UInt8) (w : World) : Prop := Lib.IsBuilder 103 5 B b (Lib.byteCells l) w

theorem own_base {w : World} {base : Nat} {e : TypeId} {size n : Nat} {v : Value} {xs : List Value} (h : w.ownsRow base e size v n xs) (k : Nat) (hk : v.ownBlock = some k) : base ≤ k := by
  rcases h.2 with ⟨rfl, _⟩ | ⟨g, cap, cur, rfl, hb, _⟩
  · simp [Value.ownBlock] at hk
  · have : g = k := by simpa [Value.ownBlock] using hk
    omega

theorem own_below {w w1 : World} {base : Nat} {e : TypeId} {size n : Nat} {v : Value} {xs : List Value} (h : w.ownsRow base e size v n xs) (hb : Below w.heap.size w w1) : w1.ownsRow base e size v n xs :=
  h.kept (row := none) ⟨hb.os, hb.tape, hb.output, hb.size, fun i hi _ => hb.block i hi⟩ (by cases v.ownBlock <;> simp)

theorem BuildL.lt {B b : Nat} {l : List UInt8} {w : World} (h : BuildL B b l w) : b < w.heap.size := by
  rcases h with h | h <;> exact h.lt
theorem BuildL.below {B b : Nat} {l : List UInt8} {w w1 : World} (h : BuildL B b l w) (hb : Below w.heap.size w w1) : BuildL B b l w1 := by
  have hlt := h.lt
  rcases h with ⟨h1, v, h2, h3, h4⟩ | ⟨h1, v, h2, h3, h4⟩
  · exact .inl ⟨h1, v, by rw [hb.block b hlt]; exact h2, own_below h3 hb, h4⟩
  · exact .inr ⟨h1, v, by rw [hb.block b hlt]; exact h2, own_below h3 hb, h4⟩
theorem BuildL.alloc {B b : Nat} {l : List UInt8} {w : World} (h : BuildL B b l w) (o : Obj) : BuildL B b l (w.alloc o) :=
  h.below ((Below.refl _ _).alloc (Nat.le_refl _) o)
theorem BuildL.fresh (w : World) : BuildL w.heap.size w.heap.size [] (w.alloc (.cells #[.pointer none, .slice none 0 0] 103)) :=
  .inl ⟨Nat.le_refl _, .slice none 0 0, by show (w.heap.push _)[w.heap.size]? = _; simp, ⟨rfl, .inl ⟨rfl, rfl⟩⟩, by simp [Value.ownBlock]⟩

theorem strCells_S (l : List UInt8) : Lib.strCells (S l) = Lib.byteCells l := by unfold Lib.strCells Lib.byteCells; rw [S_data]

theorem builder_Len (B b : Nat) (l : List UInt8) (w : World) (h : BuildL B b l w) :
    Calls Tryz.prog 201 #[.pointer (some ⟨b, 0, none⟩)] w fun e w' => e = .returned (.int .i64 l.length) ∧ w = w' :=
  (Tryz.Builder_Len B b _ w h).mono fun e w' ⟨h1, h2⟩ => ⟨by rw [h1, Lib.byteCells_length], h2.symm⟩

theorem builder_Write (B b : Nat) (l s : List UInt8) (w : World) (h : BuildL B b l w) (hlen : l.length + s.length ≤ 140737488355328) (hB : B ≤ w.heap.size) :
    Calls Tryz.prog 110 #[.pointer (some ⟨b, 0, none⟩), .string (S s)] w fun e w' => e = .returned (.tuple #[.int .i64 s.length, .nilIface]) ∧ BuildL B b (l ++ s) w' ∧ Below B w w' :=
  (builderWriteString B b _ (S s) w h (by rw [Lib.byteCells_length, S_size]; exact hlen) hB).mono fun e w' ⟨h1, h2, h3⟩ =>
    ⟨by rw [h1, S_size], .inr (by rw [strCells_S] at h2; simpa [Lib.byteCells] using h2), h3⟩

theorem builder_String (B b : Nat) (l : List UInt8) (w : World) (h : BuildL B b l w) (hB : B ≤ w.heap.size) :
    Calls Tryz.prog 66 #[.pointer (some ⟨b, 0, none⟩)] w fun e w' => e = .returned (.string (S l)) ∧ Below B w w' :=
  Tryz.Builder_String_any B b l w h hB

def BuildF (B b : Nat) (l : List UInt8) (w : World) : Prop := Lib.IsBuilderF 103 5 B b (Lib.byteCells l) w
theorem BuildL.f {B b : Nat} {l : List UInt8} {w : World} (h : BuildL B b l w) : BuildF B b l w := Lib.IsBuilderF.of h

theorem builder_Len_f (B b : Nat) (l : List UInt8) (w : World) (h : BuildF B b l w) :
    Calls Tryz.prog 201 #[.pointer (some ⟨b, 0, none⟩)] w fun e w' => e = .returned (.int .i64 l.length) ∧ w = w' :=
  (Tryz.Builder_Len_f B b _ w h).mono fun e w' ⟨h1, h2⟩ => ⟨by rw [h1, Lib.byteCells_length], h2.symm⟩

theorem builder_String_f (B b : Nat) (l : List UInt8) (w : World) (h : BuildF B b l w) (hB : B ≤ w.heap.size) :
    Calls Tryz.prog 66 #[.pointer (some ⟨b, 0, none⟩)] w fun e w' => e = .returned (.string (S l)) ∧ BuildF B b l w' ∧ Below B w w' :=
  Tryz.Builder_String_any_f B b l w h hB

end Go.Proofs.YtplnfepdikbpfaaGreatDoor

namespace Go.Proofs.YtplnfepdikbpfaaGreatDoor
open Go.RowKit
set_option linter.unusedVariables false
set_option linter.unusedSimpArgs false

theorem badAt_le (l : List UInt8) (h : 0 < l.length) : badAt l 1 ≤ l.length := by
  unfold badAt; have := runBad_le (l.drop 1); simp only [List.length_drop] at this; omega
theorem nextKN_le (l : List UInt8) (h : 0 < l.length) : (nextKN l).2 ≤ l.length := by
  unfold nextKN
  split
  · exact goodKN_le l
  · simp only; split
    · exact lineN_le l
    · exact badAt_le l h

def tokCells (ts : List Tok) : List Value := ts.flatMap fun t => [.int .i64 t.kind, .string (S t.text)]
theorem tokCells_length (ts : List Tok) : (tokCells ts).length = ts.length * 2 := by
  induction ts with
  | nil => rfl
  | cons t ts ih => simp [tokCells] at ih ⊢; omega
theorem tokCells_append (a b : List Tok) : tokCells (a ++ b) = tokCells a ++ tokCells b := by simp [tokCells]

/-- The slice has these tokens, in a row of memory of the call's own. -/
def OwnT (w : World) (base : Nat) (v : Value) (ts : List Tok) : Prop := w.ownsRow base 167 2 v ts.length (tokCells ts)
theorem OwnT.nil (w : World) (base : Nat) : OwnT w base (.slice none 0 0) [] := ⟨rfl, .inl ⟨rfl, rfl⟩⟩

def strLen : Value → Nat | .string s => s.size | _ => 0

theorem infoTok : (Tryz.prog.info? 167).map (fun i => (i.zero, i.size, i.bytes)) = some (some (.agg #[.int .i64 0, .string ⟨#[]⟩]), 2, 24) := by kernel_rfl

theorem tok_append {ops : Array Oper} {rest : List Oper} {o : Oper} {a : Act} {Q : Exit → Act → World → Prop} {W : World} (w0 : World) (base : Nat) (hgd : o.guard = none) (s x : Operand)
    (ho : o.op = .call { callee := .builtin .append, args := #[s, x], argTypes := #[219, 219] })
    (v : Value) (ts : List Tok) (t : Tok) (hs : a.eval s = v) (n : Nat) (hx : a.eval x = .slice (some ⟨n, 0, none⟩) 1 1) (hn : n = W.heap.size)
    (HO : OwnT W base v ts) (HB : Below base w0 W) (hbase : base ≤ W.heap.size) (hl : ts.length ≤ 1000000)
    (h : ∀ v1 w1, OwnT w1 base v1 (ts ++ [t]) → Below base w0 w1 → wpList Tryz.prog ops Q rest (a.put o.dst v1) w1) :
    wpList Tryz.prog ops Q (o :: rest) a (W.alloc (.cells #[.int .i64 t.kind, .string (S t.text)] 167)) := by
  subst hn
  obtain ⟨i0, hi, hzz⟩ := Option.map_eq_some_iff.1 infoTok
  simp only [Prod.mk.injEq] at hzz
  obtain ⟨hz0, hz1, hz2⟩ := hzz
  refine wpList_append_own (W.alloc (.cells #[.int .i64 t.kind, .string (S t.text)] 167)) hgd s x 219 ho base 167 i0 _ 2 24 Tryz.underlying219 hi hz0 hz1 hz2 rfl (by decide) v ts.length (tokCells ts) hs (World.ownsRow.alloc HO _) ⟨W.heap.size, 0, none⟩ 1 1 [.int .i64 t.kind, .string (S t.text)] hx rfl
    (fun j u hj => by rcases j with _ | _ | j <;> simp at hj <;> subst hj <;> simp [Addr.add]) (by intro u hu; simp at hu; rcases hu with rfl | rfl <;> rfl) (by simp only [maxLen]; omega) (by omega) (by simp; omega) ?_
  intro v1 w1 hown hg _
  refine h v1 w1 ?_ ((HB.alloc hbase _).grown hg (by simp; omega) (own_base HO))
  unfold OwnT
  rw [tokCells_append, List.length_append]
  exact hown

/-- What Lex comes to. -/
def LexPost (w : World) (ts : List Tok) (err : Int) (e : Ending) (w' : World) : Prop :=
  ∃ v, e = .returned (.tuple #[v, .int .i64 err]) ∧ OwnT w' w.heap.size v ts ∧ Below w.heap.size w w'

set_option maxHeartbeats 1000000 in
theorem Lex_long (l : List UInt8) (w : World) (h : 20000 < l.length) (hs : l.length ≤ 9223372036854775000) :
    Calls Tryz.prog 195 #[.string (S l)] w (LexPost w [] 3) := by
  go_enter Tryz.func195, Tryz.ntmps195
  go_wp2
  go_ret2
  exact ⟨_, rfl, OwnT.nil _ _, Below.refl _ _⟩

set_option maxHeartbeats 1000000 in
theorem Lex_calls (l : List UInt8) (w : World) (hs : l.length ≤ 20000) :
    Calls Tryz.prog 195 #[.string (S l)] w (LexPost w (lex l) 0) := by
  go_enter Tryz.func195, Tryz.ntmps195
  go_wp2
  go_loopw [0, 4] (fun s v wr => ∃ (l' : List UInt8) (ts : List Tok), s = .string (S l') ∧ Hid (lex l = ts ++ lex l') ∧ ts.length + l'.length ≤ l.length ∧ OwnT wr w.heap.size v ts ∧ Below w.heap.size w wr) (fun s _ _ => strLen s)
  case atStart => exact ⟨l, [], rfl, Lib.hid rfl, by simp, OwnT.nil _ _, Below.refl _ _⟩
  case round =>
    obtain ⟨l', ts, rfl, hl, hlen, hown, hb⟩ := hrel
    by_cases h0 : 0 < l'.length
    · have hne : (l' == ([] : List UInt8)) = false := by cases l' <;> simp at h0 ⊢
      have hT : (nextT l').text.length = (nextKN l').2 := by have := nextKN_le l' h0; simp [nextT]; omega
      have hTl : (nextT l').text.length ≤ l'.length := by have := nextKN_le l' h0; omega
      have hpos := nextKN_pos l' h0
      have HT := Lib.hid hT; clear hT
      go_wp2_with fail
      refine (next_calls l' _ h0 (by omega)).mono ?_
      rintro e w1 ⟨rfl, hb1⟩
      have hown1 : OwnT w1 w.heap.size u4 ts := own_below hown hb1
      have hb2 := bel_then hb hb1
      clear hown hb hb1
      have hsz := hb2.size
      have hlb : ts.length ≤ 1000000 := by omega
      go_wp2_with (at_builtin; refine tok_append w w.heap.size rfl (.tmp 18) (.tmp 20) rfl u4 ts (nextT l') rfl (w1.heap.size + 1) rfl (by simp) (World.ownsRow.alloc hown1 _) (bel_alloc hb2 _) (by simp; omega) hlb ?_; intro v1 w2 hown2 hb3; clear hown1 hb2)
      go_roundw
      case rel =>
        refine ⟨l'.drop (nextT l').text.length, ts ++ [nextT l'], rfl, Lib.hid ?_, ?_, hown2, hb3⟩
        · rw [hl.out, lex_cons l' h0, HT.out]; simp
        · have := HT.out; simp; omega
      case measure => simp [strLen, S_size]; have := HT.out; omega
    · have : l' = [] := List.eq_nil_of_length_eq_zero (by omega)
      subst this
      go_wp2
      go_ret2
      refine ⟨_, rfl, ?_, hb⟩
      rw [hl.out, lex_nil, List.append_nil]
      exact hown

end Go.Proofs.YtplnfepdikbpfaaGreatDoor

namespace Go.Proofs.YtplnfepdikbpfaaGreatDoor
open Go.RowKit
set_option linter.unusedVariables false
set_option linter.unusedSimpArgs false

instance : Inhabited Tok := ⟨⟨0, []⟩⟩
def tokAt (ts : List Tok) (k : Nat) : Tok := ts.getD k default

/-- The slice reads as these tokens. -/
def ReadT (w : World) (v : Value) (ts : List Tok) : Prop :=
  ∃ A c, v = .slice A ts.length c ∧ ts.length ≤ 9223372036854775000 ∧
    (0 < ts.length → ∃ b off, A = some ⟨b, off, none⟩ ∧ b < w.heap.size ∧
      ∀ k, k < ts.length → w.cell? ⟨b, off + k * 2, none⟩ = some (.int .i64 (tokAt ts k).kind) ∧ w.cell? ⟨b, off + k * 2 + 1, none⟩ = some (.string (S (tokAt ts k).text)))

theorem ReadT.below {w w1 : World} {v : Value} {ts : List Tok} (h : ReadT w v ts) (hb : Below w.heap.size w w1) : ReadT w1 v ts := by
  obtain ⟨A, c, rfl, hl, h⟩ := h
  refine ⟨A, c, rfl, hl, fun h0 => ?_⟩
  obtain ⟨b, off, rfl, hb0, hc⟩ := h h0
  refine ⟨b, off, rfl, Nat.lt_of_lt_of_le hb0 hb.size, fun k hk => ?_⟩
  rw [hb.cell (p := ⟨b, _, none⟩) hb0, hb.cell (p := ⟨b, _, none⟩) hb0]
  exact hc k hk


theorem textOf_take (ts : List Tok) (k : Nat) (h : k < ts.length) : textOf (ts.take (k + 1)) = textOf (ts.take k) ++ (tokAt ts k).text := by
  rw [List.take_succ_eq_append_getElem h, textOf_append]
  simp [textOf, tokAt, List.getElem?_eq_getElem h]
theorem textOf_take_le (ts : List Tok) (k : Nat) : (textOf (ts.take k)).length ≤ (textOf ts).length := by
  conv => rhs; rw [← List.take_append_drop k ts, textOf_append, List.length_append]
  omega

/-- What joined comes to. -/
def JoinedPost (w : World) (ts : List Tok) (e : Ending) (w' : World) : Prop :=
  ∃ (s : List UInt8) (ok : Bool), e = .returned (.tuple #[.string (S s), .bool ok]) ∧ (ok = decide ((textOf ts).length ≤ 20000)) ∧ (ok = true → s = textOf ts) ∧ Below w.heap.size w w'

set_option maxHeartbeats 1000000 in
theorem joined_calls (v : Value) (ts : List Tok) (w : World) (h : ReadT w v ts) :
    Calls Tryz.prog 194 #[v] w (JoinedPost w ts) := by
  obtain ⟨A, c, rfl, hl, h⟩ := h
  go_enter Tryz.func194, Tryz.ntmps194
  go_wp2
  go_loopw [9] (fun i wr => ∃ k : Nat, k ≤ ts.length ∧ i = .int .i64 k ∧ BuildL w.heap.size w.heap.size (textOf (ts.take k)) wr ∧ (textOf (ts.take k)).length ≤ 40000 ∧ Below w.heap.size w wr) (fun i _ => ts.length - (intOf i).toNat)
  case atStart => exact ⟨0, Nat.zero_le _, rfl, BuildL.fresh w, by simp [textOf], bel_alloc (Below.refl _ _) _⟩
  case round =>
    obtain ⟨k, hk, rfl, hB, hn, hb⟩ := hrel
    have hsz := hb.size
    by_cases hlt : k < ts.length
    · obtain ⟨b, off, rfl, hb0, hc⟩ := h (by omega)
      obtain ⟨hc1, hc2⟩ := hc k hlt
      have g1 : wr.cell? ⟨b, off + k * 2, none⟩ = some (.int .i64 (tokAt ts k).kind) := by rw [hb.cell (p := ⟨b, _, none⟩) hb0]; exact hc1
      have g2 : wr.cell? ⟨b, off + k * 2 + 1, none⟩ = some (.string (S (tokAt ts k).text)) := by rw [hb.cell (p := ⟨b, _, none⟩) hb0]; exact hc2
      clear hc1 hc2 hc
      have ht := Lib.hid (textOf_take ts k hlt)
      by_cases hbig : 20000 < (textOf (ts.take k)).length
      · go_wp2_with (go_at_call 201; refine (builder_Len w.heap.size w.heap.size (textOf (ts.take k)) _ (hB.alloc _)).mono ?_; rintro e w' ⟨rfl, rfl⟩)
        go_ret2
        have := textOf_take_le ts k
        exact ⟨[], false, rfl, by simp; omega, by simp, bel_alloc hb _⟩
      · by_cases hbig2 : 20000 < (tokAt ts k).text.length
        · go_wp2_with (go_at_call 201; refine (builder_Len w.heap.size w.heap.size (textOf (ts.take k)) _ (hB.alloc _)).mono ?_; rintro e w' ⟨rfl, rfl⟩)
          go_ret2
          have h1 := textOf_take_le ts (k + 1)
          rw [ht.out, List.length_append] at h1
          exact ⟨[], false, rfl, by simp; omega, by simp, bel_alloc hb _⟩
        · go_wp2_with (first
            | (go_at_call 201; refine (builder_Len w.heap.size w.heap.size (textOf (ts.take k)) _ (hB.alloc _)).mono ?_; rintro e w' ⟨rfl, rfl⟩)
            | (go_at_call 110; refine (builder_Write w.heap.size w.heap.size (textOf (ts.take k)) (tokAt ts k).text _ (hB.alloc _) (by omega) (by simp; omega)).mono ?_; rintro e w2 ⟨rfl, hB2, hb2⟩))
          go_roundw
          case rel => exact ⟨k + 1, by omega, by go_num, by rw [ht.out]; exact hB2, by rw [ht.out, List.length_append]; omega, (bel_alloc hb _).trans hb2⟩
          case measure => simp [intOf]; omega
    · have hkk : k = ts.length := by omega
      subst hkk
      rw [List.take_length] at hB hn
      go_wp2_with (first
            | (go_at_call 66; refine (builder_String_f w.heap.size w.heap.size (textOf ts) _ hB.f hsz).mono ?_; rintro e w2 ⟨rfl, hB2, hb2⟩)
            | (go_at_call 201; refine (builder_Len_f w.heap.size w.heap.size (textOf ts) _ hB2).mono ?_; rintro e w' ⟨rfl, rfl⟩))
      go_ret2
      refine ⟨textOf ts, _, rfl, ?_, fun _ => rfl, hb.trans hb2⟩
      first | (rw [decide_eq_decide]; omega) | (simp; omega)

end Go.Proofs.YtplnfepdikbpfaaGreatDoor

namespace Go.Proofs.YtplnfepdikbpfaaGreatDoor
open Go.RowKit
set_option linter.unusedVariables false
set_option linter.unusedSimpArgs false

theorem stoodTok : Tryz.prog.stoodInHeld 167 = false := by kernel_rfl
theorem guardTok : Tryz.prog.eqGuardType Tryz.prog.depth 167 = false := by kernel_rfl

theorem tok_equalIn (d : Nat) (w : World) (a b : Int) (x y : List UInt8) :
    (Op.equalIn (d + 2) 167 (.agg #[.int .i64 a, .string (S x)]) (.agg #[.int .i64 b, .string (S y)])).run Tryz.prog w = .ok (a == b && x == y) w := by
  rw [run_equalIn_struct (P := Tryz.prog) w (d + 1) 167 _ _ (by simp only [Program.fieldsOf, Tryz.underlying167]) stoodTok]
  simp only [Program.fieldsOf, Tryz.underlying167]
  simp [Op.eqFields, part, go_sem]
  by_cases h1 : a = b <;> by_cases h2 : x = y <;> simp [h1, h2]

/-- Are two tokens the same? -/
def tokEq (s t : Tok) : Bool := decide (s = t)
theorem tokEq_parts (a b : Int) (x y : List UInt8) : tokEq ⟨a, x⟩ ⟨b, y⟩ = (a == b && x == y) := by
  unfold tokEq
  by_cases h1 : a = b <;> by_cases h2 : x = y <;> simp [h1, h2]
theorem tokEq_iff {s t : Tok} : tokEq s t = true ↔ s = t := by simp [tokEq]
theorem tokEq_not {s t : Tok} : tokEq s t = false ↔ s ≠ t := by simp [tokEq]

@[go_sem high] theorem tok_eql (w : World) (a b : Int) (x y : List UInt8) :
    (binOp .eql 167 (.agg #[.int .i64 a, .string (S x)]) (.agg #[.int .i64 b, .string (S y)])).run Tryz.prog w = .ok (.bool (tokEq ⟨a, x⟩ ⟨b, y⟩)) w := by
  rw [run_eql_struct, tok_equalIn 9998 w a b x y, tokEq_parts]
  rfl
@[go_sem high] theorem tok_neq (w : World) (a b : Int) (x y : List UInt8) :
    (binOp .neq 167 (.agg #[.int .i64 a, .string (S x)]) (.agg #[.int .i64 b, .string (S y)])).run Tryz.prog w = .ok (.bool (!tokEq ⟨a, x⟩ ⟨b, y⟩)) w := by
  rw [run_neq_struct, tok_equalIn 9998 w a b x y, tokEq_parts]
  rfl
attribute [go_sem] guardTok

end Go.Proofs.YtplnfepdikbpfaaGreatDoor

namespace Go.Proofs.YtplnfepdikbpfaaGreatDoor
open Go.RowKit
set_option linter.unusedVariables false
set_option linter.unusedSimpArgs false

theorem take_tok (ts : List Tok) (k : Nat) (h : k < ts.length) : ts.take (k + 1) = ts.take k ++ [tokAt ts k] := by
  rw [List.take_succ_eq_append_getElem h]; simp [tokAt, List.getElem?_eq_getElem h]
theorem tokEq_no {ts us : List Tok} {k : Nat} (h : (!tokEq ⟨(tokAt ts k).kind, (tokAt ts k).text⟩ ⟨(tokAt us k).kind, (tokAt us k).text⟩) = true) : ts ≠ us := by
  intro e; subst e; simp [tokEq] at h
theorem tokEq_yes {ts us : List Tok} {k : Nat} (h : (!tokEq ⟨(tokAt ts k).kind, (tokAt ts k).text⟩ ⟨(tokAt us k).kind, (tokAt us k).text⟩) = false) : tokAt ts k = tokAt us k := by
  simp only [Bool.not_eq_false'] at h; exact tokEq_iff.1 h

theorem ReadT.at_ {w : World} {A : Option Addr} {c : Nat} {ts : List Tok} {n : Nat} (h : ReadT w (.slice A n c) ts) (h0 : 0 < n) :
    n = ts.length ∧ ∃ b off, A = some ⟨b, off, none⟩ ∧ b < w.heap.size ∧
      ∀ k, k < n → w.cell? ⟨b, off + k * 2, none⟩ = some (.int .i64 (tokAt ts k).kind) ∧ w.cell? ⟨b, off + k * 2 + 1, none⟩ = some (.string (S (tokAt ts k).text)) := by
  obtain ⟨A', c', he, hl, hh⟩ := h
  simp only [Value.slice.injEq] at he
  obtain ⟨rfl, rfl, rfl⟩ := he
  exact ⟨rfl, hh h0⟩

set_option maxHeartbeats 1000000 in
theorem equal_calls (v u : Value) (ts us : List Tok) (w : World) (hv : ReadT w v ts) (hu : ReadT w u us) :
    Calls Tryz.prog 196 #[v, u] w fun e w' => e = .returned (.bool (decide (ts = us))) ∧ Below w.heap.size w w' := by
  obtain ⟨A, c, rfl, hl, h⟩ := hv
  obtain ⟨A', c', rfl, hl', h'⟩ := hu
  by_cases hlen : ts.length = us.length
  · have HL := Lib.hid hlen
    have hneq : ((ts.length : Int) != us.length) = false := by simp [hlen]
    clear hlen
    go_enter Tryz.func196, Tryz.ntmps196
    go_wp2
    go_loopw [13] (fun i wr => ∃ k : Nat, k ≤ ts.length ∧ i = .int .i64 k ∧ Hid (ts.take k = us.take k) ∧ Below w.heap.size w wr) (fun i _ => ts.length - (intOf i).toNat)
    case atStart => exact ⟨0, Nat.zero_le _, rfl, Lib.hid rfl, Below.refl _ _⟩
    case round =>
      obtain ⟨k, hk, rfl, hE, hb⟩ := hrel
      have hsz := hb.size
      by_cases hlt : k < ts.length
      · have hlt' : k < us.length := by rw [← HL.out]; exact hlt
        obtain ⟨b, off, rfl, hb0, hc⟩ := h (by omega)
        obtain ⟨b', off', rfl, hb0', hc'⟩ := h' (by omega)
        obtain ⟨hc1, hc2⟩ := hc k hlt
        obtain ⟨hc1', hc2'⟩ := hc' k hlt'
        have g1 : wr.cell? ⟨b, off + k * 2, none⟩ = some (.int .i64 (tokAt ts k).kind) := by rw [hb.cell (p := ⟨b, _, none⟩) hb0]; exact hc1
        have g2 : wr.cell? ⟨b, off + k * 2 + 1, none⟩ = some (.string (S (tokAt ts k).text)) := by rw [hb.cell (p := ⟨b, _, none⟩) hb0]; exact hc2
        have g1' : wr.cell? ⟨b', off' + k * 2, none⟩ = some (.int .i64 (tokAt us k).kind) := by rw [hb.cell (p := ⟨b', _, none⟩) hb0']; exact hc1'
        have g2' : wr.cell? ⟨b', off' + k * 2 + 1, none⟩ = some (.string (S (tokAt us k).text)) := by rw [hb.cell (p := ⟨b', _, none⟩) hb0']; exact hc2'
        clear hc1 hc2 hc hc1' hc2' hc' h h'
        go_wp2
        go_quiet (fail)
        go_wp2
        · have hne := tokEq_no (ts := ts) (us := us) (k := k) (by assumption)
          go_ret
          exact ⟨ret_bool (decide_eq_false hne).symm, bel_drewN hb _⟩
        · have he := tokEq_yes (ts := ts) (us := us) (k := k) (by assumption)
          go_roundw
          case rel => exact ⟨k + 1, by omega, by go_num, Lib.hid (by rw [take_tok ts k hlt, take_tok us k hlt', hE.out, he]), bel_drewN hb _⟩
          case measure => simp [intOf]; omega
      · have hkk : k = ts.length := by omega
        have he : ts = us := by
          have := hE.out
          rw [hkk, List.take_length, HL.out, List.take_length] at this
          exact this
        go_wp2
        go_ret
        exact ⟨ret_bool (decide_eq_true he).symm, hb⟩
  · have hneq : ((ts.length : Int) != us.length) = true := by simp; omega
    go_enter Tryz.func196, Tryz.ntmps196
    go_wp2
    go_ret
    exact ⟨ret_bool (decide_eq_false (fun e => hlen (by rw [e]))).symm, Below.refl _ _⟩

end Go.Proofs.YtplnfepdikbpfaaGreatDoor

namespace Go.Proofs.YtplnfepdikbpfaaGreatDoor
open Go.RowKit
set_option linter.unusedVariables false
set_option linter.unusedSimpArgs false

theorem tokAt_cell (ts : List Tok) (k : Nat) (h : k < ts.length) : (tokCells ts)[k * 2]? = some (.int .i64 (tokAt ts k).kind) ∧ (tokCells ts)[k * 2 + 1]? = some (.string (S (tokAt ts k).text)) := by
  induction ts generalizing k with
  | nil => simp at h
  | cons t ts ih =>
    cases k with
    | zero => simp [tokCells, tokAt]
    | succ k =>
      have := ih k (by simpa using h)
      rw [show (k + 1) * 2 = k * 2 + 1 + 1 by omega]
      simpa [tokCells, tokAt] using this

theorem OwnT.read {w : World} {base : Nat} {v : Value} {ts : List Tok} (h : OwnT w base v ts) (hn : ts.length ≤ 9223372036854775000) : ReadT w v ts := by
  rcases h.2 with ⟨rfl, h0⟩ | ⟨g, cap, cur, rfl, hb, hh, h1, h2, h3, h4⟩
  · exact ⟨none, 0, by rw [h0], hn, fun h => by omega⟩
  · refine ⟨_, cap, rfl, hn, fun h0 => ⟨g, 0, rfl, (Array.getElem?_eq_some_iff.1 hh).1, fun k hk => ?_⟩⟩
    have hc : ∀ j u, (tokCells ts)[j]? = some u → w.cell? ⟨g, 0 + j, none⟩ = some u := fun j u hj => by
      have hc0 := World.ownsRow.cells h (g := g) rfl j u hj
      have ha : (⟨g, 0, none⟩ : Addr).add j = ⟨g, 0 + j, none⟩ := by unfold Addr.add; split <;> simp_all
      rwa [ha] at hc0
    have := tokAt_cell ts k hk
    exact ⟨hc _ _ this.1, by rw [Nat.add_assoc]; exact hc _ _ this.2⟩

theorem ReadT.one (w : World) (t : Tok) : ReadT (w.alloc (.cells #[.int .i64 t.kind, .string (S t.text)] 167)) (.slice (some ⟨w.heap.size, 0, none⟩) 1 1) [t] := by
  refine ⟨_, 1, rfl, by simp, fun _ => ⟨w.heap.size, 0, rfl, by simp, fun k hk => ?_⟩⟩
  have : k = 0 := by simpa using hk
  subst this
  simp [tokAt]
theorem ReadT.two (w : World) (s t : Tok) : ReadT (w.alloc (.cells #[.int .i64 s.kind, .string (S s.text), .int .i64 t.kind, .string (S t.text)] 167)) (.slice (some ⟨w.heap.size, 0, none⟩) 2 2) [s, t] := by
  refine ⟨_, 2, rfl, by simp, fun _ => ⟨w.heap.size, 0, rfl, by simp, fun k hk => ?_⟩⟩
  have : k = 0 ∨ k = 1 := by simp at hk; omega
  rcases this with rfl | rfl <;> simp [tokAt]

set_option maxHeartbeats 1000000 in
theorem Text_calls (v : Value) (ts : List Tok) (w : World) (h : ReadT w v ts) :
    Calls Tryz.prog 184 #[v] w fun e w' => e = .returned (.tuple #[.string (S (textRes ts)), .int .i64 (textErr ts)]) ∧ Below w.heap.size w w' := by
  obtain ⟨A, c, rfl, hl, hc⟩ := id h
  by_cases hlong : 20000 < (textOf ts).length
  · have he := textErr_long ts (.inl hlong)
    have hr := textRes_ne ts (by omega)
    rw [he, hr]; clear he hr hc
    go_enter Tryz.func184, Tryz.ntmps184
    go_wp2_with fail
    refine (joined_calls _ ts _ h).mono ?_
    rintro e w1 ⟨s, ok, rfl, hok, hs, hb⟩
    obtain rfl : ok = false := by rw [hok]; simp; omega
    clear hok hs
    go_wp2
    go_ret2
    exact ⟨rfl, hb⟩
  · by_cases hlen : 20000 < ts.length
    · have he := textErr_long ts (.inr hlen)
      have hr := textRes_ne ts (by omega)
      rw [he, hr]; clear he hr hc
      go_enter Tryz.func184, Tryz.ntmps184
      go_wp2_with fail
      refine (joined_calls _ ts _ h).mono ?_
      rintro e w1 ⟨s, ok, rfl, hok, hs, hb⟩
      obtain rfl : ok = true := by rw [hok]; simp; omega
      clear hok hs
      go_wp2
      go_ret2
      exact ⟨rfl, hb⟩
    · have hboth : ¬ (20000 < (textOf ts).length ∨ 20000 < ts.length) := by omega
      have key : ∀ (d : Bool) (er : Int) (res : List UInt8), decide (lex (textOf ts) = ts) = d → (if d then (0 : Int) else 4) = er → (if d then textOf ts else []) = res →
          Calls Tryz.prog 184 #[.slice A ts.length c] w fun e w' => e = .returned (.tuple #[.string (S res), .int .i64 er]) ∧ Below w.heap.size w w' := by
        intro d er res hd her hres
        clear hc
        have HD := Lib.hid hd; have HE := Lib.hid her; have HR := Lib.hid hres
        clear hd her hres
        go_enter Tryz.func184, Tryz.ntmps184
        go_wp2_with fail
        refine (joined_calls _ ts _ h).mono ?_
        rintro e w1 ⟨s, ok, rfl, hok, hs, hb⟩
        obtain rfl : ok = true := by rw [hok]; simp; omega
        obtain rfl : s = textOf ts := hs rfl
        clear hok hs
        go_wp2_with fail
        refine (Lex_calls (textOf ts) _ (by omega)).mono ?_
        rintro e w2 ⟨v2, rfl, hown, hb2⟩
        have hr2 : ReadT w2 (.slice A ts.length c) ts := (h.below hb).below hb2
        have hb3 := bel_then hb hb2
        have hlx : (lex (textOf ts)).length ≤ 9223372036854775000 := by have := lex_length (textOf ts); omega
        have hr1 := hown.read hlx
        clear hb hb2 hown
        go_wp2_with fail
        refine (equal_calls _ _ (lex (textOf ts)) ts _ hr1 hr2).mono ?_
        rintro e w4 ⟨rfl, hb4⟩
        rw [HD.out]
        have hb5 := bel_then hb3 hb4
        clear hb3 hb4 hr1 hr2
        cases d with
        | true =>
          go_wp2
          go_ret2
          exact ⟨by rw [← HE.out, ← HR.out]; rfl, hb5⟩
        | false =>
          go_wp2
          go_ret2
          exact ⟨by rw [← HE.out, ← HR.out]; rfl, hb5⟩
      refine key (decide (lex (textOf ts) = ts)) _ _ rfl ?_ ?_
      · by_cases hx : lex (textOf ts) = ts
        · rw [textErr_ok ts hboth hx]; simp [hx]
        · rw [textErr_form ts hboth hx]; simp [hx]
      · by_cases hx : lex (textOf ts) = ts
        · rw [textRes_ok ts (textErr_ok ts hboth hx)]; simp [hx]
        · rw [textRes_ne ts (by rw [textErr_form ts hboth hx]; decide)]; simp [hx]

end Go.Proofs.YtplnfepdikbpfaaGreatDoor

namespace Go.Proofs.YtplnfepdikbpfaaGreatDoor
open Go.RowKit
set_option linter.unusedVariables false
set_option linter.unusedSimpArgs false

set_option maxHeartbeats 1000000 in
theorem are_calls (v : Value) (ts : List Tok) (w : World) (h : ReadT w v ts) :
    Calls Tryz.prog 160 #[v] w fun e w' => e = .returned (.bool (areB ts)) ∧ Below w.heap.size w w' := by
  unfold areB
  go_enter Tryz.func160, Tryz.ntmps160
  go_wp2_with (go_at_call 184; refine (Text_calls v ts _ h).mono ?_; rintro e w1 ⟨rfl, hb⟩)
  go_ret
  exact ⟨rfl, hb⟩

set_option maxHeartbeats 1000000 in
theorem IsToken_calls (t : Tok) (w : World) :
    Calls Tryz.prog 128 #[.agg #[.int .i64 t.kind, .string (S t.text)]] w fun e w' => e = .returned (.bool (isTokB t)) ∧ Below w.heap.size w w' := by
  cases ht : (t.text == ([] : List UInt8)) with
  | true =>
    have hr : isTokB t = false := by simp [isTokB, ht]
    rw [hr]; clear hr
    go_enter Tryz.func128, Tryz.ntmps128
    go_wp2
    go_ret
    exact ⟨rfl, bel_alloc (Below.refl _ _) _⟩
  | false =>
    have hr : isTokB t = areB [t] := by simp [isTokB, ht]
    rw [hr]; clear hr
    go_enter Tryz.func128, Tryz.ntmps128
    go_wp2_with fail
    refine (are_calls _ [t] _ (by simpa using ReadT.one (w.alloc (.cells #[.int .i64 t.kind, .string (S t.text)] 167)) t)).mono ?_
    rintro e w1 ⟨rfl, hb⟩
    go_wp2
    go_ret
    exact ⟨rfl, bel_then (bel_alloc (bel_alloc (Below.refl _ _) _) _) hb⟩

theorem great_int : ∀ c : UInt8, (decide (65 ≤ c) && decide (c ≤ 90)) = (decide (65 ≤ (c.toNat : Int)) && decide ((c.toNat : Int) ≤ 90)) := u8_all (by decide +kernel)

set_option maxHeartbeats 1000000 in
theorem Great_calls (t : Tok) (w : World) :
    Calls Tryz.prog 129 #[.agg #[.int .i64 t.kind, .string (S t.text)]] w fun e w' => e = .returned (.bool (greatB t)) ∧ Below w.heap.size w w' := by
  unfold greatB
  rw [great_int]
  by_cases hl : 0 < t.text.length
  · have hne : (t.text == ([] : List UInt8)) = false := by cases h : t.text <;> simp [h] at hl ⊢
    go_enter Tryz.func129, Tryz.ntmps129
    go_wp2
    all_goals go_ret
    all_goals refine ⟨ret_bool ?_, bel_alloc (Below.refl _ _) _⟩
    all_goals simp [*] <;> omega
  · have hnil : t.text = [] := List.eq_nil_of_length_eq_zero (by omega)
    have hne : (t.text == ([] : List UInt8)) = true := by simp [hnil]
    go_enter Tryz.func129, Tryz.ntmps129
    go_wp2
    all_goals go_ret
    all_goals refine ⟨ret_bool ?_, bel_alloc (Below.refl _ _) _⟩
    all_goals simp [*]

end Go.Proofs.YtplnfepdikbpfaaGreatDoor
