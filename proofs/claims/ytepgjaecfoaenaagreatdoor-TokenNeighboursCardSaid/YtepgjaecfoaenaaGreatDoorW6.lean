/- The walk of the token package's Lex. No condition but that the string is no longer than an int can tell. -/
import Derived.Test.YtepgjaecfoaenaaGreatDoorW5
import Derived.Test.YtepgjaecfoaenaaGreatDoorP2
import Derived.Test.YtepgjaecfoaenaaGreatDoorB2
namespace Go.Proofs.YtepgjaecfoaenaaGreatDoor
open Go.RowKit
set_option linter.unusedVariables false
set_option linter.unusedSimpArgs false

theorem badAt_le (l : List UInt8) (h : 0 < l.length) : badAt l 1 ≤ l.length := by
  unfold badAt; have := runBad_le (l.drop 1); simp only [List.length_drop] at this; omega
theorem nextKN_le (l : List UInt8) (h : 0 < l.length) : (nextKN l).2 ≤ l.length := by
  unfold nextKN
  split
  · exact goodKN_le l
  · simp only; split
    · exact lineN_le l
    · exact badAt_le l h

def tokCells (ts : List Tok) : List Value := ts.flatMap fun t => [.int .i64 t.kind, .string (S t.text)]
theorem tokCells_length (ts : List Tok) : (tokCells ts).length = ts.length * 2 := by
  induction ts with
  | nil => rfl
  | cons t ts ih => simp [tokCells] at ih ⊢; omega
theorem tokCells_append (a b : List Tok) : tokCells (a ++ b) = tokCells a ++ tokCells b := by simp [tokCells]

/-- The slice has these tokens, in a row of memory of the call's own. -/
def OwnT (w : World) (base : Nat) (v : Value) (ts : List Tok) : Prop := w.ownsRow base 23 2 v ts.length (tokCells ts)
theorem OwnT.nil (w : World) (base : Nat) : OwnT w base (.slice none 0 0) [] := ⟨rfl, .inl ⟨rfl, rfl⟩⟩

def strLen : Value → Nat | .string s => s.size | _ => 0

theorem infoTok : (Tryz.prog.info? 23).map (fun i => (i.zero, i.size, i.bytes)) = some (some (.agg #[.int .i64 0, .string ⟨#[]⟩]), 2, 24) := by kernel_rfl

theorem tok_append {ops : Array Oper} {rest : List Oper} {o : Oper} {a : Act} {Q : Exit → Act → World → Prop} {W : World} (w0 : World) (base : Nat) (hgd : o.guard = none) (s x : Operand)
    (ho : o.op = .call { callee := .builtin .append, args := #[s, x], argTypes := #[37, 37] })
    (v : Value) (ts : List Tok) (t : Tok) (hs : a.eval s = v) (n : Nat) (hx : a.eval x = .slice (some ⟨n, 0, none⟩) 1 1) (hn : n = W.heap.size)
    (HO : OwnT W base v ts) (HB : Below base w0 W) (hbase : base ≤ W.heap.size) (hl : ts.length ≤ 1000000)
    (h : ∀ v1 w1, OwnT w1 base v1 (ts ++ [t]) → Below base w0 w1 → wpList Tryz.prog ops Q rest (a.put o.dst v1) w1) :
    wpList Tryz.prog ops Q (o :: rest) a (W.alloc (.cells #[.int .i64 t.kind, .string (S t.text)] 23)) := by
  subst hn
  obtain ⟨i0, hi, hzz⟩ := Option.map_eq_some_iff.1 infoTok
  simp only [Prod.mk.injEq] at hzz
  obtain ⟨hz0, hz1, hz2⟩ := hzz
  refine wpList_append_own (W.alloc (.cells #[.int .i64 t.kind, .string (S t.text)] 23)) hgd s x 37 ho base 23 i0 _ 2 24 Tryz.underlying37 hi hz0 hz1 hz2 rfl (by decide) v ts.length (tokCells ts) hs (World.ownsRow.alloc HO _) ⟨W.heap.size, 0, none⟩ 1 1 [.int .i64 t.kind, .string (S t.text)] hx rfl
    (fun j u hj => by rcases j with _ | _ | j <;> simp at hj <;> subst hj <;> simp [Addr.add]) (by intro u hu; simp at hu; rcases hu with rfl | rfl <;> rfl) (by simp only [maxLen]; omega) (by omega) (by simp; omega) ?_
  intro v1 w1 hown hg _
  refine h v1 w1 ?_ ((HB.alloc hbase _).grown hg (by simp; omega) (own_base HO))
  unfold OwnT
  rw [tokCells_append, List.length_append]
  exact hown

/-- What Lex comes to. -/
def LexPost (w : World) (ts : List Tok) (err : Int) (e : Ending) (w' : World) : Prop :=
  ∃ v, e = .returned (.tuple #[v, .int .i64 err]) ∧ OwnT w' w.heap.size v ts ∧ Below w.heap.size w w'

set_option maxHeartbeats 1000000 in
theorem Lex_long (l : List UInt8) (w : World) (h : 20000 < l.length) (hs : l.length ≤ 9223372036854775000) :
    Calls Tryz.prog 23 #[.string (S l)] w (LexPost w [] 3) := by
  go_enter Tryz.func23, Tryz.ntmps23
  go_wp2
  go_ret2
  exact ⟨_, rfl, OwnT.nil _ _, Below.refl _ _⟩

set_option maxHeartbeats 1000000 in
theorem Lex_calls (l : List UInt8) (w : World) (hs : l.length ≤ 20000) :
    Calls Tryz.prog 23 #[.string (S l)] w (LexPost w (lex l) 0) := by
  go_enter Tryz.func23, Tryz.ntmps23
  go_wp2
  go_loopw [0, 4] (fun s v wr => ∃ (l' : List UInt8) (ts : List Tok), s = .string (S l') ∧ Hid (lex l = ts ++ lex l') ∧ ts.length + l'.length ≤ l.length ∧ OwnT wr w.heap.size v ts ∧ Below w.heap.size w wr) (fun s _ _ => strLen s)
  case atStart => exact ⟨l, [], rfl, Lib.hid rfl, by simp, OwnT.nil _ _, Below.refl _ _⟩
  case round =>
    obtain ⟨l', ts, rfl, hl, hlen, hown, hb⟩ := hrel
    by_cases h0 : 0 < l'.length
    · have hne : (l' == ([] : List UInt8)) = false := by cases l' <;> simp at h0 ⊢
      have hT : (nextT l').text.length = (nextKN l').2 := by have := nextKN_le l' h0; simp [nextT]; omega
      have hTl : (nextT l').text.length ≤ l'.length := by have := nextKN_le l' h0; omega
      have hpos := nextKN_pos l' h0
      have HT := Lib.hid hT; clear hT
      go_wp2_with fail
      refine (next_calls l' _ h0 (by omega)).mono ?_
      rintro e w1 ⟨rfl, hb1⟩
      have hown1 : OwnT w1 w.heap.size u4 ts := own_below hown hb1
      have hb2 := bel_then hb hb1
      clear hown hb hb1
      have hsz := hb2.size
      have hlb : ts.length ≤ 1000000 := by omega
      go_wp2_with (at_builtin; refine tok_append w w.heap.size rfl (.tmp 18) (.tmp 20) rfl u4 ts (nextT l') rfl (w1.heap.size + 1) rfl (by simp) (World.ownsRow.alloc hown1 _) (bel_alloc hb2 _) (by simp; omega) hlb ?_; intro v1 w2 hown2 hb3; clear hown1 hb2)
      go_roundw
      case rel =>
        refine ⟨l'.drop (nextT l').text.length, ts ++ [nextT l'], rfl, Lib.hid ?_, ?_, hown2, hb3⟩
        · rw [hl.out, lex_cons l' h0, HT.out]; simp
        · have := HT.out; simp; omega
      case measure => simp [strLen, S_size]; have := HT.out; omega
    · have : l' = [] := List.eq_nil_of_length_eq_zero (by omega)
      subst this
      go_wp2
      go_ret2
      refine ⟨_, rfl, ?_, hb⟩
      rw [hl.out, lex_nil, List.append_nil]
      exact hown

end Go.Proofs.YtepgjaecfoaenaaGreatDoor
