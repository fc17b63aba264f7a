/- The law TokenLines. -/
import Derived.Test.YtepgjaecfoaenaaGreatDoorT3
import Derived.Test.YtepgjaecfoaenaaGreatDoorS4
import Derived.Maps.AppendAt
import Derived.Laws.OwnMore
import Derived.StillTailTactics
namespace Go.Proofs.YtepgjaecfoaenaaGreatDoor
open Go.RowKit
set_option linter.unusedVariables false
set_option linter.unusedSimpArgs false

theorem textOf_push (x : List Tok) (u : Tok) : textOf (pushT x u) = textOf x ++ u.text := by
  rcases List.eq_nil_or_concat x with rfl | ⟨y, s, h⟩
  · simp [pushT_nil, textOf]
  · rw [List.concat_eq_append] at h; subst h
    by_cases hk : s.kind = 1 ∧ u.kind = 1
    · rw [pushT_blank _ _ _ hk.1 hk.2]; simp [textOf]
    · rw [pushT_no _ _ _ hk]; simp [textOf]
theorem textOf_fold : ∀ (us : List Tok) (x : List Tok), textOf (us.foldl pushT x) = textOf x ++ textOf us
  | [], x => by simp [textOf]
  | u :: us, x => by rw [List.foldl_cons, textOf_fold us, textOf_push]; simp [textOf]
theorem push_length (x : List Tok) (u : Tok) : (pushT x u).length ≤ x.length + 1 := by
  rcases List.eq_nil_or_concat x with rfl | ⟨y, s, h⟩
  · simp [pushT_nil]
  · rw [List.concat_eq_append] at h; subst h
    by_cases hk : s.kind = 1 ∧ u.kind = 1
    · rw [pushT_blank _ _ _ hk.1 hk.2]; simp
    · rw [pushT_no _ _ _ hk]; simp
theorem fold_length : ∀ (us : List Tok) (x : List Tok), (us.foldl pushT x).length ≤ x.length + us.length
  | [], x => by simp
  | u :: us, x => by have := fold_length us (pushT x u); have := push_length x u; rw [List.foldl_cons, List.length_cons]; omega
theorem fold_step (us x : List Tok) (k : Nat) (h : k < us.length) : (us.take (k + 1)).foldl pushT x = pushT ((us.take k).foldl pushT x) (tokAt us k) := by
  rw [take_tok us k h, List.foldl_append]; rfl

/-- A row of tokens of the call's own, with the last one's text turned. -/
theorem tokCells_set (y : List Tok) (s : Tok) (k : Int) (t : List UInt8) (hk : s.kind = k) : (tokCells (y ++ [s])).set (y.length * 2 + 1) (.string (S t)) = tokCells (y ++ [⟨k, t⟩]) := by
  subst hk
  rw [tokCells_append, tokCells_append, List.set_append_right _ _ (by rw [tokCells_length]; omega), tokCells_length]
  congr 1
  rw [show y.length * 2 + 1 - y.length * 2 = 1 by omega]
  rfl
theorem OwnT.turned {w : World} {base g cap n : Nat} {y : List Tok} {s : Tok} (h : OwnT w base (.slice (some ⟨g, 0, none⟩) n cap) (y ++ [s])) (t : List UInt8) (hk : s.kind = 1) :
    OwnT (w.setCell ⟨g, y.length * 2 + 1, none⟩ (.string (S t))) base (.slice (some ⟨g, 0, none⟩) n cap) (y ++ [⟨1, t⟩]) ∧ w.grownBy (w.setCell ⟨g, y.length * 2 + 1, none⟩ (.string (S t))) (some g) := by
  unfold OwnT at h ⊢
  have hl : (y ++ [s]).length = (y ++ [(⟨1, t⟩ : Tok)]).length := by simp
  rw [hl] at h
  have hn : n = (y ++ [(⟨1, t⟩ : Tok)]).length := by
    rcases h.2 with ⟨h', _⟩ | ⟨g', cap', cur, h', _⟩
    · simp at h'
    · simp only [Value.slice.injEq] at h'; exact h'.2.1
  subst hn
  have := World.ownsRow.stored h (y.length * 2 + 1) (.string (S t))
  rw [tokCells_set y s 1 t hk] at this
  exact this

/-- One token more, at the end of a row of tokens of the call's own: what else has not turned. -/
theorem tok_append_at {ops : Array Oper} {rest : List Oper} {o : Oper} {a : Act} {Q : Exit → Act → World → Prop} {W : World} (w0 : World) (base : Nat) (hgd : o.guard = none) (s x : Operand)
    (ho : o.op = .call { callee := .builtin .append, args := #[s, x], argTypes := #[37, 37] })
    (v : Value) (ts : List Tok) (t : Tok) (hs : a.eval s = v) (n : Nat) (hx : a.eval x = .slice (some ⟨n, 0, none⟩) 1 1) (hn : n = W.heap.size)
    (HO : OwnT W base v ts) (HB : Below base w0 W) (hbase : base ≤ W.heap.size) (hl : ts.length ≤ 1000000)
    (h : ∀ v1 w1, OwnT w1 base v1 (ts ++ [t]) → Below base w0 w1 → (∀ b, b < W.heap.size → v.ownBlock ≠ some b → (v1.ownBlock ≠ some b ∧ ∀ j, w1.cell? ⟨b, j, none⟩ = W.cell? ⟨b, j, none⟩)) → W.heap.size ≤ w1.heap.size → wpList Tryz.prog ops Q rest (a.put o.dst v1) w1) :
    wpList Tryz.prog ops Q (o :: rest) a (W.alloc (.cells #[.int .i64 t.kind, .string (S t.text)] 23)) := by
  subst hn
  obtain ⟨i0, hi, hzz⟩ := Option.map_eq_some_iff.1 infoTok
  simp only [Prod.mk.injEq] at hzz
  obtain ⟨hz0, hz1, hz2⟩ := hzz
  refine wpList_append_own_at (W.alloc (.cells #[.int .i64 t.kind, .string (S t.text)] 23)) hgd s x 37 ho base 23 i0 _ 2 24 Tryz.underlying37 hi hz0 hz1 hz2 rfl (by decide) v ts.length (tokCells ts) hs (World.ownsRow.alloc HO _) ⟨W.heap.size, 0, none⟩ 1 1 [.int .i64 t.kind, .string (S t.text)] hx rfl
    (fun j u hj => by rcases j with _ | _ | j <;> simp at hj <;> subst hj <;> simp [Addr.add]) (by intro u hu; simp at hu; rcases hu with rfl | rfl <;> rfl) (by simp only [maxLen]; omega) (by omega) (by simp; omega) ?_
  intro v1 w1 hown hg _ hat
  refine h v1 w1 ?_ ((HB.alloc hbase _).grown hg (by simp; omega) (own_base HO)) (fun b hb hne => ⟨?_, fun j => ?_⟩) (by have := hg.size; simp at this; omega)
  · unfold OwnT
    rw [tokCells_append, List.length_append]
    exact hown
  · rcases hat with e | e
    · rw [e]; exact hne
    · rw [e]; intro e2; simp at e2; omega
  · rw [World.cell?_of_block (hg.block b (by simp; omega) (Ne.symm hne))]
    exact World.cell?_of_block (heap_alloc_old W _ hb)

/-- The tokens lie in this block. -/
structure UsIn (w : World) (b off : Nat) (us : List Tok) : Prop where
  lt : 0 < us.length → b < w.heap.size
  cells : ∀ k, k < us.length → w.cell? ⟨b, off + k * 2, none⟩ = some (.int .i64 (tokAt us k).kind) ∧ w.cell? ⟨b, off + k * 2 + 1, none⟩ = some (.string (S (tokAt us k).text))

theorem last_10 (s : List UInt8) (f : Nat) (h0 : 0 < f) (hf : f ≤ s.length) (h : at_ s (f - 1) = 10) : (s.take f).getLast? = some 10 := by
  have e : s.take f = s.take (f - 1) ++ [at_ s (f - 1)] := by
    have := take_byte s (f - 1) (by omega)
    rwa [show f - 1 + 1 = f by omega] at this
  rw [e, h]; simp
theorem lines_step (s : List UInt8) (f n : Nat) (hf : f ≤ n) (hn : n < s.length) (h : f = 0 ∨ at_ s (f - 1) = 10) :
    (lex ((s.take (n + 1)).drop f)).foldl pushT (lex (s.take f)) = lex (s.take (n + 1)) := by
  rw [lex_lines]
  · congr 1
    have : s.take f = (s.take (n + 1)).take f := by rw [List.take_take, Nat.min_eq_left (by omega)]
    rw [this, List.take_append_drop]
  · rcases Nat.eq_zero_or_pos f with rfl | h0
    · left; rfl
    · right
      exact last_10 s f h0 (by omega) (h.resolve_left (by omega))

theorem toks_len {ts : List Tok} {k : Nat} (h : k < ts.length) : (tokAt ts k).text.length ≤ (textOf ts).length :=
  text_le (List.mem_of_getElem? (tok_get h))

set_option maxRecDepth 100000 in
set_option maxHeartbeats 8000000 in
theorem Lines_calls (l : List UInt8) (w : World) (hs : l.length ≤ 9223372036854775000) :
    Calls Tryz.prog 5 #[.string (S l)] w fun e w' => e = .returned (.bool true) ∧ Below w.heap.size w w' := by
  by_cases hlong : 20000 < (l.take 20001).length
  · go_enter Tryz.func5, Tryz.ntmps5
    go_wp2_with fail
    refine (Short_calls l w (by omega)).mono ?_
    rintro e w1 ⟨rfl, hb1⟩
    go_wp2_with fail
    refine (Lex_long (l.take 20001) w1 hlong (by simp; omega)).mono ?_
    rintro e w2 ⟨v, rfl, hown, hb2⟩
    clear hown
    go_wp2_with fail
    refine (alive_calls _).mono ?_
    rintro e w3 ⟨rfl, hb3⟩
    go_wp2
    go_ret
    exact ⟨rfl, bel_then (bel_then hb1 hb2) hb3⟩
  · obtain ⟨s, hS⟩ : ∃ s, s = l.take 20001 := ⟨_, rfl⟩
    have hl2 : s.length ≤ 20000 := by rw [hS]; omega
    have HS := Lib.hid hS
    clear hS hlong
    go_enter Tryz.func5, Tryz.ntmps5
    go_wp2_with fail
    refine (Short_calls l w (by omega)).mono ?_
    rw [← HS.out]
    rintro e w1 ⟨rfl, hb1⟩
    go_wp2_with fail
    refine (Lex_calls s w1 hl2).mono ?_
    rintro e w2 ⟨v, rfl, hown, hb2⟩
    have hbl := bel_then hb1 hb2
    have hlen := lex_length s
    have HR := Lib.hid (hown.read (by omega))
    clear hown hb1 hb2
    go_wp2_with fail
    obtain ⟨wo, rfl⟩ : ∃ wo : World, wo = w2 := ⟨_, rfl⟩
    go_loopw [6, 7, 8] (fun a fr i wr => ∃ (ts : List Tok) (f n : Nat), OwnT wr wo.heap.size a ts ∧ fr = .int .i64 f ∧ i = .int .i64 n ∧ n ≤ s.length ∧ f ≤ n ∧ Hid (ts = lex (s.take f) ∧ (f = 0 ∨ at_ s (f - 1) = 10 ∨ f = s.length) ∧ (n = s.length → f = s.length)) ∧ Below wo.heap.size wo wr) (fun _ _ i _ => s.length - (intOf i).toNat)
    case atStart => exact ⟨[], 0, 0, OwnT.nil _ _, rfl, rfl, by omega, Nat.le_refl _, Lib.hid ⟨by rw [List.take_zero, lex_nil], .inl rfl, fun h => h⟩, Below.refl _ _⟩
    case round =>
      obtain ⟨ts, f, n, hown, rfl, rfl, hn, hfn, hE, hb⟩ := hrel
      by_cases hlt : n < s.length
      · have i1 : (n : Int) < (s.length : Int) := by omega
        have i2 : (0 : Int) ≤ (n : Int) := by omega
        have i3 : IntKind.i64.wrap ((n : Int) + 1) = (n : Int) + 1 := wrapI _ (by omega)
        by_cases hgo : at_ s n ≠ 10 ∧ n + 1 < s.length
        · have g1 : (((at_ s n).toNat : Int) != 10) = true := byteNT (d := 10) hgo.1
          have g2 : decide ((n : Int) + 1 < (s.length : Int)) = true := by rw [decide_eq_true_eq]; omega
          have hE2 := Lib.hid (⟨hE.out.1, hE.out.2.1, fun h => absurd h (by omega)⟩ : ts = lex (s.take f) ∧ (f = 0 ∨ at_ s (f - 1) = 10 ∨ f = s.length) ∧ (n + 1 = s.length → f = s.length))
          clear hgo
          go_wp2_with fail
          exact ⟨⟨ts, f, n + 1, hown, rfl, by go_num, by omega, by omega, hE2, hb⟩, by simp [intOf]; omega⟩
        · have hst : (((at_ s n).toNat : Int) != 10) = false ∨ (((at_ s n).toNat : Int) != 10) = true ∧ decide ((n : Int) + 1 < (s.length : Int)) = false := by
            by_cases h10 : at_ s n = 10
            · exact .inl (byteNF (d := 10) h10)
            · exact .inr ⟨byteNT (d := 10) h10, by rw [decide_eq_false_iff_not]; intro h; exact hgo ⟨h10, by omega⟩⟩
          have hend : at_ s n = 10 ∨ n + 1 = s.length := by
            by_cases h10 : at_ s n = 10
            · exact .inl h10
            · exact .inr (by rcases Nat.lt_or_ge (n + 1) s.length with h | h; exact absurd ⟨h10, h⟩ hgo; omega)
          have HEnd := Lib.hid hend
          have hL : ((s.take (n + 1)).drop f).length ≤ 20000 := by simp; omega
          have LAW := Lib.hid (lines_step s f n hfn hlt (by rcases hE.out.2.1 with h | h | h; exact .inl h; exact .inr h; omega))
          have f1 : (0 : Int) ≤ (n : Int) + 1 := by omega
          have f2 : (n : Int) + 1 ≤ (s.length : Int) := by omega
          have f3 : (0 : Int) ≤ (f : Int) := by omega
          have f4 : (f : Int) ≤ (n : Int) + 1 := by omega
          have f5 : ((n : Int) + 1).toNat = n + 1 := by omega
          clear hgo hend
          rcases hst with g1 | ⟨g1, g2⟩
          all_goals
            go_wp2_with fail
            refine (Lex_calls ((s.take (n + 1)).drop f) _ hL).mono ?_
            rintro e w3 ⟨u, rfl, hown2, hb3⟩
            have hown3 : OwnT w3 wo.heap.size u6 ts := own_below hown hb3
            have hbo3 := bel_then hb hb3
            have hLpos : 0 < (lex ((s.take (n + 1)).drop f)).length := by
              rw [lex_cons _ (by simp; omega)]; simp
            have huslen : (lex ((s.take (n + 1)).drop f)).length ≤ 20000 := Nat.le_trans (lex_length _) hL
            have hustext : (textOf (lex ((s.take (n + 1)).drop f))).length ≤ 20000 := by rw [textOf_lex]; exact hL
            obtain ⟨us, hus⟩ : ∃ us, us = lex ((s.take (n + 1)).drop f) := ⟨_, rfl⟩
            have LAW2 := LAW.out
            rw [← hus] at hown2 LAW2 hLpos huslen hustext
            rw [← hE.out.1] at LAW2
            have tslen : ts.length ≤ 20000 := by rw [hE.out.1]; refine Nat.le_trans (lex_length _) ?_; simp; omega
            have tstext : (textOf ts).length ≤ 20000 := by rw [hE.out.1, textOf_lex]; simp; omega
            have HL := Lib.hid LAW2
            clear LAW2 hus hL
            obtain ⟨bA, cA, hu0, -, hc2⟩ := hown2.read (by omega)
            obtain ⟨b2, o2, rfl, hb2, hcells⟩ := hc2 hLpos
            subst hu0
            have hb2r : wr.heap.size ≤ b2 := own_base hown2 b2 rfl
            have hne : u6.ownBlock ≠ some b2 := by
              intro e
              have := (World.ownsRow.lt hown _ e).2
              omega
            have hUs : UsIn w3 b2 o2 us := ⟨fun _ => hb2, hcells⟩
            clear hcells hc2 hown2 hown hb hb2r
            go_wp2_with fail
            go_loopw [6, 11] (fun a kk wt => ∃ k : Nat, k ≤ us.length ∧ kk = .int .i64 k ∧ OwnT wt wo.heap.size a ((us.take k).foldl pushT ts) ∧ a.ownBlock ≠ some b2 ∧ UsIn wt b2 o2 us ∧ Below wo.heap.size wo wt) (fun _ kk _ => us.length - (intOf kk).toNat)
            case atStart => exact ⟨0, Nat.zero_le _, rfl, hown3, hne, hUs, hbo3⟩
            case round =>
              obtain ⟨k, hk, rfl, hown, hne2, hU, hbt⟩ := hrel
              clear hown3 hne hUs hbo3
              by_cases hkl : k < us.length
              · have fs := fold_step us ts k hkl
                have yl := fold_length (us.take k) ts
                have yt : (textOf ((us.take k).foldl pushT ts)).length ≤ 40000 := by
                  rw [textOf_fold, List.length_append]
                  have : (textOf (us.take k)).length ≤ (textOf us).length := by
                    conv => rhs; rw [← List.take_append_drop k us]
                    rw [textOf_append, List.length_append]; omega
                  omega
                have yl2 : ((us.take k).foldl pushT ts).length ≤ 40000 := by rw [List.length_take] at yl; omega
                obtain ⟨ys, hys⟩ : ∃ ys, ys = (us.take k).foldl pushT ts := ⟨_, rfl⟩
                rw [← hys] at fs hown yt yl2
                have FS := Lib.hid fs
                clear fs yl hys
                have m0 := (hU.cells k hkl).1
                have m1 := (hU.cells k hkl).2
                have ut := toks_len hkl
                have k1 : (k : Int) < (us.length : Int) := by omega
                have k2 : (0 : Int) ≤ (k : Int) := by omega
                have hwo := hbt.size
                have hb2t := hU.lt hLpos
                rcases List.eq_nil_or_concat ys with rfl | ⟨y, lt, hyc⟩
                · obtain ⟨ao, cap, rfl⟩ : ∃ ao cap, u6 = .slice ao 0 cap := by
                    rcases hown.2 with ⟨h, _⟩ | ⟨g, cap, cur, h, _⟩
                    · exact ⟨_, _, h⟩
                    · exact ⟨_, _, h⟩
                  go_wp2_with (at_builtin; refine tok_append_at wo wo.heap.size rfl (.tmp 97) (.tmp 102) rfl _ [] (tokAt us k) rfl wr.heap.size rfl rfl hown hbt hwo (by simp) ?_; intro v1 w5 hown5 hb5 hoth hz5)
                  exact ⟨⟨k + 1, by omega, by go_num, by rw [FS.out]; exact hown5, (hoth b2 hb2t hne2).1, ⟨fun _ => by omega, fun j hj => ⟨by rw [(hoth b2 hb2t hne2).2]; exact (hU.cells j hj).1, by rw [(hoth b2 hb2t hne2).2]; exact (hU.cells j hj).2⟩⟩, hb5⟩, by simp [intOf]; omega⟩
                · rw [List.concat_eq_append] at hyc
                  subst hyc
                  have e1 : (y ++ [lt]).length = y.length + 1 := by simp
                  obtain ⟨g, cap, rfl, hgb, hgz⟩ : ∃ g cap, u6 = .slice (some ⟨g, 0, none⟩) (y.length + 1) cap ∧ wo.heap.size ≤ g ∧ g < wr.heap.size := by
                    rcases hown.2 with ⟨_, h⟩ | ⟨g, cap, cur, h, hgb, hh, _⟩
                    · rw [e1] at h; omega
                    · rw [e1] at h; exact ⟨g, cap, h, hgb, (Array.getElem?_eq_some_iff.1 hh).1⟩
                  have eL : tokAt (y ++ [lt]) y.length = lt := by simp [tokAt]
                  have hcl := tokAt_cell (y ++ [lt]) y.length (by simp)
                  rw [eL] at hcl
                  have hadd : ∀ j, (⟨g, 0, none⟩ : Addr).add j = ⟨g, j, none⟩ := by intro j; unfold Addr.add; split <;> simp_all
                  have c0 : wr.cell? ⟨g, y.length * 2, none⟩ = some (.int .i64 lt.kind) := by
                    have := World.ownsRow.cells hown (g := g) rfl _ _ hcl.1
                    rwa [hadd] at this
                  have c1 : wr.cell? ⟨g, y.length * 2 + 1, none⟩ = some (.string (S lt.text)) := by
                    have := World.ownsRow.cells hown (g := g) rfl _ _ hcl.2
                    rwa [hadd] at this
                  have fz : wr.frozen? ⟨g, y.length * 2 + 1, none⟩ = false := by
                    have h2 := hown
                    unfold OwnT at h2; rw [e1] at h2
                    exact World.ownsRow.frozenAt h2 _
                  have ltl : lt.text.length ≤ 40000 := by
                    have : (textOf (y ++ [lt])).length = (textOf y).length + lt.text.length := by simp [textOf]
                    omega
                  have hgne : g ≠ b2 := fun e => hne2 (by simp [Value.ownBlock, e])
                  have q1 : (0 : Int) ≤ (y.length : Int) := by omega
                  have q2 : (y.length : Int) < (y.length : Int) + 1 := by omega
                  have q3 : IntKind.i64.wrap (y.length : Int) = (y.length : Int) := wrapI _ (by rw [e1] at yl2; omega)
                  have q4 : decide (((y.length : Int) + 1) > 0) = true := decide_eq_true (by omega)
                  have q5 : ¬ 9223372036854775807 < lt.text.length + (tokAt us k).text.length := by omega
                  have hsp : ((lt.kind == 1) = true ∧ ((tokAt us k).kind == 1) = true) ∨ (lt.kind == 1) = false ∨ ((lt.kind == 1) = true ∧ ((tokAt us k).kind == 1) = false) := by
                    cases (lt.kind == 1) <;> cases ((tokAt us k).kind == 1) <;> simp
                  clear hcl eL hadd e1
                  rcases hsp with ⟨s1, s2⟩ | s1 | ⟨s1, s2⟩
                  · have hp := pushT_blank y lt (tokAt us k) (by simpa using s1) (by simpa using s2)
                    have hT := (OwnT.turned hown (lt.text ++ (tokAt us k).text) (by simpa using s1)).1
                    go_wp2_with fail
                    go_still_tail 17, (by kernel_rfl)
                    change wpList _ _ _ _ _ (World.drew _)
                    go_wp2_with fail
                    have hoc : ∀ j, (wr.setCell ⟨g, y.length * 2 + 1, none⟩ (.string (S (lt.text ++ (tokAt us k).text)))).drew.cell? ⟨b2, j, none⟩ = wr.cell? ⟨b2, j, none⟩ := by
                      intro j; rw [World.cell?_drew]; exact World.cell?_setCell_other _ _ _ _ (by intro e; have := congrArg Addr.block e; simp at this; first | exact hgne this | exact hgne this.symm)
                    refine ⟨⟨k + 1, by omega, by go_num, by rw [FS.out, hp]; exact World.ownsRow.drew hT, by simpa [Value.ownBlock] using hgne, ⟨fun _ => by simp [World.setCell, World.drew]; omega, fun j hj => ⟨by rw [hoc]; exact (hU.cells j hj).1, by rw [hoc]; exact (hU.cells j hj).2⟩⟩, ?_⟩, by simp [intOf]; omega⟩
                    exact bel_drew (hbt.setCell hgb _)
                  · have hp := pushT_no y lt (tokAt us k) (by rintro ⟨h, _⟩; simp [h] at s1)
                    go_wp2_with (at_builtin; refine tok_append_at wo wo.heap.size rfl (.tmp 97) (.tmp 102) rfl _ (y ++ [lt]) (tokAt us k) rfl wr.heap.size rfl rfl hown hbt hwo (by omega) ?_; intro v1 w5 hown5 hb5 hoth hz5)
                    exact ⟨⟨k + 1, by omega, by go_num, by rw [FS.out, hp]; exact hown5, (hoth b2 hb2t hne2).1, ⟨fun _ => by omega, fun j hj => ⟨by rw [(hoth b2 hb2t hne2).2]; exact (hU.cells j hj).1, by rw [(hoth b2 hb2t hne2).2]; exact (hU.cells j hj).2⟩⟩, hb5⟩, by simp [intOf]; omega⟩
                  · have hp := pushT_no y lt (tokAt us k) (by rintro ⟨_, h⟩; simp [h] at s2)
                    go_wp2_with (at_builtin; refine tok_append_at wo wo.heap.size rfl (.tmp 97) (.tmp 102) rfl _ (y ++ [lt]) (tokAt us k) rfl wr.heap.size rfl rfl hown hbt hwo (by omega) ?_; intro v1 w5 hown5 hb5 hoth hz5)
                    exact ⟨⟨k + 1, by omega, by go_num, by rw [FS.out, hp]; exact hown5, (hoth b2 hb2t hne2).1, ⟨fun _ => by omega, fun j hj => ⟨by rw [(hoth b2 hb2t hne2).2]; exact (hU.cells j hj).1, by rw [(hoth b2 hb2t hne2).2]; exact (hU.cells j hj).2⟩⟩, hb5⟩, by simp [intOf]; omega⟩
              · have hkk : us.take k = us := List.take_of_length_le (by omega)
                rw [hkk, HL.out] at hown
                have k3 : ¬ (k : Int) < (us.length : Int) := by omega
                have hE3 := Lib.hid (⟨rfl, by rcases HEnd.out with h | h; exact .inr (.inl h); exact .inr (.inr h), fun h => h⟩ : lex (s.take (n + 1)) = lex (s.take (n + 1)) ∧ (n + 1 = 0 ∨ at_ s (n + 1 - 1) = 10 ∨ n + 1 = s.length) ∧ (n + 1 = s.length → n + 1 = s.length))
                clear hkk
                go_wp2_with fail
                exact ⟨⟨lex (s.take (n + 1)), n + 1, n + 1, hown, by go_num, by go_num, by omega, Nat.le_refl _, hE3, hbt⟩, by simp [intOf]; omega⟩
      · go_wp2_with fail
        refine (Same_calls v u6 (lex s) (lex s) _ (HR.out.below hb) ?_).mono ?_
        · have hts : ts = lex s := by
            have hf := hE.out.2.2 (by omega)
            rw [hE.out.1, hf, List.take_length]
          rw [hts] at hown
          exact hown.read (by omega)
        rw [show decide (lex s = lex s) = true from decide_eq_true rfl]
        rintro e w3 ⟨rfl, hb3⟩
        go_wp2_with fail
        refine (alive_calls _).mono ?_
        rintro e w4 ⟨rfl, hb4⟩
        go_wp2
        go_ret
        exact ⟨rfl, bel_then (bel_then (bel_then hbl hb) hb3) hb4⟩

end Go.Proofs.YtepgjaecfoaenaaGreatDoor
