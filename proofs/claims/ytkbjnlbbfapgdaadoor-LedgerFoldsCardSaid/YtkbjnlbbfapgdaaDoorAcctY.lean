/- acct.Apply. -/
import Derived.Test.YtkbjnlbbfapgdaaDoorAcctX
import Derived.Deep.RegionHeld3
set_option maxRecDepth 100000
set_option linter.unusedVariables false
set_option linter.unusedSimpArgs false
namespace Go.Proofs.YtkbjnlbbfapgdaaDoor
open Go.RowKit

theorem ret_rowT {P : Program} {fn : Func} {p u : Tmp} {ty : TypeId} {w : World} {tmps : Array Value} {R : Ending → World → Prop} (h : fn.results = #[.cell p ty, .tmp u]) (g : Nat) (t : TypeId) (cs : Array Value) (d : TypeDesc) (x : Value)
    (hp : tmps.getD p undef = .pointer (some ⟨g, 0, none⟩)) (hx : tmps.getD u undef = x) (hg : Arr w g t cs)
    (hu : P.underlying ty = some d) (hd : (match d with | .struct _ | .array _ _ => true | _ => false) = true) (hi : (P.info? ty).map (·.size) = some cs.size)
    (hR : R (.returned (.tuple #[.agg cs, x])) w) : bodyPost P fn R Exit.ret { tmps := tmps, defers := [] } w := by
  refine bodyPost_ret (v := .tuple #[.agg cs, x]) ?_ rfl hR
  rw [results_cell_tmp h]
  simp only [hp, hx, asAddr, Sem.run_pure, Result.andThen_ok, run_loadVar_row w g t ty cs (0, 0) d hg hu hd hi]
def RetAT (w : World) (a : Ac) (x : Int) (e : Ending) (w' : World) : Prop := ∃ AL cL AC cC, e = .returned (.tuple #[acA a AL cL AC cC, .int .i64 x]) ∧ OwnA w' w.heap.size a AL cL AC cC ∧ Ext w w'
theorem OwnA.zero (w : World) (base : Nat) : OwnA w base Ac0 none 0 none 0 := ⟨OwnV.nil _ _ _ _, OwnV.nil _ _ _ _, .inl rfl⟩

/-- a slice lies in another block -/
def Off (A : Option Addr) (g : Nat) : Prop := ∀ k, blk A = some k → k ≠ g
theorem Off.row {A : Option Addr} {g : Nat} (h : Off A g) : blk A = none ∨ blk A ≠ some g := by
  cases hb : blk A with
  | none => exact .inl rfl
  | some k => exact .inr (fun e => by injection e with e; exact h k hb e)
theorem OwnA.keep {w w1 : World} {base g : Nat} {a : Ac} {AL AC : Option Addr} {cL cC : Nat} (h : OwnA w base a AL cL AC cC) (hg : w.grownBy w1 (some g)) (h1 : Off AL g) (h2 : Off AC g) : OwnA w1 base a AL cL AC cC :=
  ⟨h.1.keep hg h1.row, h.2.1.keep hg h2.row, h.2.2⟩
theorem OwnA.lower {w : World} {base b : Nat} {a : Ac} {AL AC : Option Addr} {cL cC : Nat} (h : OwnA w base a AL cL AC cC) (hb : b ≤ base) : OwnA w b a AL cL AC cC := ⟨h.1.lower hb, h.2.1.lower hb, h.2.2⟩
theorem OwnA.off {w : World} {base g : Nat} {a : Ac} {AL AC : Option Addr} {cL cC : Nat} (h : OwnA w base a AL cL AC cC) (hg : g < base ∨ w.heap.size ≤ g) : Off AL g ∧ Off AC g :=
  ⟨fun k hk => by have := h.1.base_ k hk; omega, fun k hk => by have := h.2.1.base_ k hk; omega⟩

theorem cells_new (w : World) (t : TypeId) (cs : List Value) : ∀ (j : Nat) (u : Value), cs[j]? = some u → (w.alloc (.cells cs.toArray t)).cell? (Addr.add ⟨w.heap.size, 0, none⟩ j) = some u := by
  intro j u h
  rw [add_mk, Nat.zero_add, (Arr.new w t cs.toArray).cell]
  simpa using h
theorem Arr.off {w w1 : World} {g : Nat} {t : TypeId} {cs : Array Value} {A : Option Addr} (H : Arr w g t cs) (hg : w.grownBy w1 (blk A)) (ho : Off A g) : Arr w1 g t cs := H.grown hg (fun e => ho g e.symm rfl)
theorem own_app_ls {w w1 w8 : World} {base : Nat} {a : Ac} {A5 A6 A8 : Option Addr} {c5 c6 c8 : Nat} {l : Lz} (O : OwnA w base a A5 c5 A6 c6) (he : Ext w w1) (h8 : OwnV w8 base 64 2 A8 (a.ls.length + 1) c8 (a.ls.flatMap Lz.cs ++ l.cs)) (g8 : w1.grownBy w8 (blk A5)) (b8 : blk A8 = blk A5 ∨ blk A8 = some w1.heap.size) :
    OwnA w8 base { a with ls := a.ls ++ [l] } A8 c8 A6 c6 ∧ (∀ g, g < w1.heap.size → Off A5 g → Off A8 g) := by
  refine ⟨⟨by simpa using h8, (O.2.1.ext he).keep g8 ?_, ?_⟩, fun g hg ho k hk => ?_⟩
  · rcases O.2.2 with h | h
    · cases hb : blk A6 with
      | none => exact .inl rfl
      | some k => exact .inr (by rw [h]; simp)
    · exact .inr (fun e => h e.symm)
  · rcases b8 with h | h
    · rw [h]; exact O.2.2
    · refine .inr (fun e => ?_)
      rw [h] at e
      have := O.2.1.base_ _ e.symm
      have := he.size
      omega
  · rcases b8 with h | h
    · exact ho k (h ▸ hk)
    · rw [h] at hk; injection hk with hk; omega
theorem own_app_cl {w w1 w8 : World} {base : Nat} {a : Ac} {A5 A6 A8 : Option Addr} {c5 c6 c8 : Nat} {l : St} (O : OwnA w base a A5 c5 A6 c6) (he : Ext w w1) (h8 : OwnV w8 base 70 6 A8 (a.cl.length + 1) c8 (a.cl.flatMap St.cs ++ l.cs)) (g8 : w1.grownBy w8 (blk A6)) (b8 : blk A8 = blk A6 ∨ blk A8 = some w1.heap.size) :
    OwnA w8 base { a with cl := a.cl ++ [l] } A5 c5 A8 c8 ∧ (∀ g, g < w1.heap.size → Off A6 g → Off A8 g) := by
  refine ⟨⟨(O.1.ext he).keep g8 O.2.2, by simpa using h8, ?_⟩, fun g hg ho k hk => ?_⟩
  · rcases b8 with h | h
    · rw [h]; exact O.2.2
    · cases hb : blk A5 with
      | none => exact .inl rfl
      | some k =>
        refine .inr (fun e => ?_)
        rw [h] at e
        injection e with e
        have := O.1.base_ _ hb
        have := he.size
        omega
  · rcases b8 with h | h
    · exact ho k (h ▸ hk)
    · rw [h] at hk; injection hk with hk; omega
theorem own_new_ls {w7 w10 : World} {base : Nat} {a : Ac} {A5 A6 A8 : Option Addr} {c5 c6 c8 : Nat} {l2 : List Lz} (O : OwnA w7 base a A5 c5 A6 c6) (T : Ext w7 w10) (h8 : OwnV w10 w7.heap.size 64 2 A8 l2.length c8 (l2.flatMap Lz.cs)) (hb : base ≤ w7.heap.size) :
    OwnA w10 base { a with ls := l2 } A8 c8 A6 c6 ∧ (∀ g, g < w7.heap.size → Off A8 g) := by
  refine ⟨⟨h8.lower hb, O.2.1.ext T, ?_⟩, fun g hg k hk => by have := h8.base_ k hk; omega⟩
  cases hk : blk A8 with
  | none => exact .inl rfl
  | some k =>
    refine .inr (fun e => ?_)
    have h1 := h8.base_ k hk
    have h2 := O.2.1.base_ k e.symm
    omega
theorem own_base {w w1 w8 : World} {base : Nat} {w0 : World} {A : Option Addr} {e : TypeId} {size n c : Nat} {xs : List Value} (E : Ext w0 w) (O : OwnV w base e size A n c xs) (he : Ext w w1) (hb : w0.heap.size ≤ base) (g8 : w1.grownBy w8 (blk A)) : Ext w0 w8 :=
  (E.trans he).grown g8 (fun k hk => by have := O.base_ k hk; omega)

/-- append(s, x...) on a row of the call's own, in a region that draws its order -/
theorem stepV {P : Program} {ops : Array Oper} {o : Oper} {a : Act} {K : Act → World → Prop} {Q : Exit → Act → World → Prop} {E : Prop} (w : World) (hgd : Region.wanted o (yielded ops a.tmps) = true) (s x : Operand) (t : TypeId) (ho : o.op = .call { callee := .builtin .append, args := #[s, x], argTypes := #[t, t] })
    (e : TypeId) (z : Value) (size bytes : Nat) (ht : P.underlying t = some (.slice e)) (hinfo : (P.info? e).map (fun i => (i.zero, i.size, i.bytes)) = some (some z, size, bytes)) (hz : z.cells.size = size) (hsz : 0 < size)
    (base : Nat) (A : Option Addr) (n c : Nat) (xs : List Value) (hs : a.eval s = .slice A n c) (ad : Addr) (m d : Nat) (news : List Value) (hx : a.eval x = .slice (some ad) m d)
    (h : ∀ A' c' w', OwnV w' base e size A' (n + m) c' (xs ++ news) → w.grownBy w' (blk A) → (blk A' = blk A ∨ blk A' = some w.heap.size) → K (a.put o.dst (.slice A' (n + m) c')) w')
    (hown : OwnV w base e size A n c xs) (hl : news.length = m * size) (hnews : ∀ j u, news[j]? = some u → w.cell? (ad.add j) = some u) (h1 : ∀ u ∈ news, u.oneCell' = true)
    (hb : (n + m) * bytes ≤ 140737488355328) (hmx : n + m ≤ 9223372036854775807) (hbase : base ≤ w.heap.size) :
    if Region.wanted o (yielded ops a.tmps) = true then Oper.wp P o a w K Q else E := by
  rw [if_pos hgd]
  obtain ⟨A', c', w', hrun, h2, h3, h4⟩ := run_appV (P := P) w t o.type e z size bytes ht hinfo hz hsz base A n c xs hown ad m d news hl hnews h1 hb hmx hbase
  unfold Oper.wp execOp
  simp only [ho, resolve, invoke, builtin, Sem.run_bind, Sem.run_pure, Result.andThen_ok, List.map_toArray, List.map_cons, List.map_nil, hs, hx, hrun]
  exact h A' c' w' h2 h3 h4

set_option maxHeartbeats 8000000 in
theorem aapply_calls (a : Ac) (r : Rc) (AL AC : Option Addr) (cL cC : Nat) (w : World) (ha : RdA w a AL AC) (hok : a.ok) (hr : r.ok) (n1 : AL = none → cL = 0) (n2 : AC = none → cC = 0) (hL : Laid w) :
    Calls Tryd.prog 15 #[acA a AL cL AC cC, rcA r] w (RetAT w (if chkA a r = 0 then appA a r else Ac0) (chkA a r)) := by
  have HA := Lib.hid ha
  have HL := Lib.hid hL
  have OK := Lib.hid hok
  have RK := Lib.hid hr
  have l1 := hok.2.2.2.2.2.2.2.1
  have l2 := hok.2.2.2.2.2.2.2.2
  have HC : Hid (∀ W, Ext w W → Calls Tryd.prog 53 #[(.agg #[.string a.ten, .int .u64 a.cap, .int .u64 a.used, .int .u64 a.bits, .int .u64 a.per, .slice AL a.ls.length cL, .slice AC a.cl.length cC]), (.agg #[.int .u64 r.seq, .int .i64 r.kind, .string r.ten, .int .u64 r.lease, .int .u64 r.n, .int .u64 r.bits])] W (RetV W (.int .i64 (chkA a r)))) := fun W e => acheck_calls a r AL AC cL cC W (HA.out.ext e) OK.out RK.out
  have HK : Hid (∀ W, Ext w W → Calls Tryd.prog 21 #[(.agg #[.string a.ten, .int .u64 a.cap, .int .u64 a.used, .int .u64 a.bits, .int .u64 a.per, .slice AL a.ls.length cL, .slice AC a.cl.length cC])] W (RetOA W a)) := fun W e => aclone_calls a AL AC cL cC W (HA.out.ext e) n1 n2 l1 l2
  have HZ : Hid (chkA a r = 0 → r.kind = 1 ∨ r.kind = 2 ∨ r.kind = 3 ∨ r.kind = 4 ∨ r.kind = 5) := fun h => chk_known h
  have HCZ : Hid (∀ e, chkA a r = e → e = chkA a r) := fun e h => h.symm
  have HE : Hid (chkA a r = chkA a r) := rfl
  clear ha hok hr n1 n2 hL HCZ HE
  by_cases h0 : chkA a r = 0
  · rw [if_pos h0]
    rw [h0] at HC ⊢
    have H0 := Lib.hid h0
    have HZ2 := Lib.hid (HZ.out h0)
    clear h0 HZ
    unfold acA rcA
    go_enter Tryd.func15, Tryd.ntmps15
    go_wp2_with (first
      | ((with_reducible show wpList _ _ _ ({ dst := some 2, op := Op.box 26 _, type := _, pos := _, after := _, guard := _ } :: _) _ _); refine bxA _ rfl 26 _ rfl _ rfl ?_; intro g1 w1 hg hs1 k1 e1; have X1 := Lib.hid k1; have E1 := Lib.hid e1; clear hg hs1 k1 e1)
      | ((with_reducible show wpList _ _ _ ({ dst := some 3, op := Op.box 28 _, type := _, pos := _, after := _, guard := _ } :: _) _ _); refine bxA _ rfl 28 _ rfl _ rfl ?_; intro g3 w2 hg hs1 k1 e1; have R2 := Lib.hid k1; have X2 := Lib.hid (X1.out.ext e1); have E2 := Lib.hid (E1.out.trans e1); clear hg hs1 k1 e1)
      | ((with_reducible show wpList _ _ _ ({ dst := some 4, op := Op.alloc 26, type := _, pos := _, after := _, guard := _ } :: _) _ _); refine alA _ rfl 26 rfl _ _ zero_acct ?_; intro g4 w3 hg hs1 k1 e1; have G4 := Lib.hid (show g1 < g4 ∧ g3 < g4 ∧ w.heap.size ≤ g4 from ⟨by have := X2.out.lt; omega, by have := R2.out.lt; omega, by have := E2.out.size; omega⟩); have X3 := Lib.hid (X2.out.ext e1); have R3 := Lib.hid (R2.out.ext e1); have Y3 := Lib.hid k1; have E3 := Lib.hid (E2.out.trans e1); obtain ⟨a0, a1, a2, a3, a4, a5, a6⟩ := ac_cells X3.out; obtain ⟨r0, r1, r2, r3, r4, r5⟩ := rc_cells R3.out; clear hg hs1 k1 e1))
    refine (HC.out _ E3.out).mono ?_
    rintro e w4 ⟨rfl, e4⟩
    have X4 := Lib.hid (X3.out.ext e4)
    have R4 := Lib.hid (R3.out.ext e4)
    have Y4 := Lib.hid (Y3.out.ext e4)
    have E4 := Lib.hid (E3.out.trans e4)
    clear e4 a0 a1 a2 a3 a4 a5 a6 r0 r1 r2 r3 r4 r5 HC
    obtain ⟨a0, a1, a2, a3, a4, a5, a6⟩ := ac_cells X4.out
    go_wp2_with fail
    refine (HK.out _ E4.out).mono ?_
    rintro e w5 ⟨A5, c5, A6, c6, rfl, o5, e5⟩
    have O5 := Lib.hid o5
    have X5 := Lib.hid (X4.out.ext e5)
    have R5 := Lib.hid (R4.out.ext e5)
    have Y5 := Lib.hid (Y4.out.ext e5)
    have E5 := Lib.hid (E4.out.trans e5)
    have F4 := Lib.hid (o5.off (.inl Y4.out.lt))
    have S5 := Lib.hid e5.size
    clear e5 o5 a0 a1 a2 a3 a4 a5 a6 HK
    rcases HZ2.out with hk | hk | hk | hk | hk
    · have HAP : Hid (appA a r = { a with cap := r.n }) := by show _ = _; unfold appA; simp only [hk]; rfl
      go_wp2_with (first
      | ((with_reducible show wpList _ _ _ ({ dst := some 7, op := Op.alloc 26, type := _, pos := _, after := _, guard := _ } :: _) _ _); refine alA _ rfl 26 rfl _ _ zero_acct ?_; intro g7 w6 hg hs1 k1 e1; have G7 := Lib.hid (show g4 < g7 ∧ w.heap.size ≤ g7 ∧ w5.heap.size = g7 from ⟨by have := Y5.out.lt; omega, by have := E5.out.size; omega, hg⟩); have F7 := Lib.hid (O5.out.off (.inr (Nat.le_of_eq hg))); have X6 := Lib.hid (X5.out.ext e1); have R6 := Lib.hid (R5.out.ext e1); have Y6 := Lib.hid (Y5.out.ext e1); have Z6 := Lib.hid k1; have O6 := Lib.hid (O5.out.ext e1); have E6 := Lib.hid (E5.out.trans e1); clear hg hs1 k1 e1)
      | ((with_reducible show wpList _ _ _ ({ dst := none, op := Op.store 26 (Operand.tmp 7) _, type := _, pos := _, after := _, guard := _ } :: _) _ _); refine stA _ rfl 26 26 _ _ rfl g7 _ (acV a A5 c5 A6 c6) rfl rfl Z6.out size_acct rfl (ac_one _ _ _ _ _) ?_; intro w7 hs k7 g7'; have Z7 := Lib.hid k7; have E7 := Lib.hid (E6.out.grown g7' (fun q hq => by injection hq with hq; have := G7.out; omega)); have X7 := Lib.hid (X6.out.grown g7' (by have := G7.out; have := G4.out; intro hh; injection hh; omega)); have R7 := Lib.hid (R6.out.grown g7' (by have := G7.out; have := G4.out; intro hh; injection hh; omega)); have Y7 := Lib.hid (Y6.out.grown g7' (by have := G7.out; intro hh; injection hh; omega)); have O7 := Lib.hid (O6.out.keep g7' F7.out.1 F7.out.2); obtain ⟨r0, r1, r2, r3, r4, r5⟩ := rc_cells R7.out; obtain ⟨z0, z1, z2, z3, z4, z5, z6⟩ := ac_cells Z7.out; clear hs k7 g7')
      | ((with_reducible show wpList _ _ _ ({ dst := none, op := Op.store 22 _ _, type := _, pos := _, after := _, guard := _ } :: _) _ _); refine stF _ rfl 22 _ _ rfl g7 1 (.int .u64 r.n) _ _ rfl rfl Z7.out (by show 1 < 7; decide) size_u64 rfl ?_; intro w8 hs k8 g8; have Z8 := Lib.hid (show Arr w8 g7 26 (acV { a with cap := r.n } A5 c5 A6 c6) from k8); have E8 := Lib.hid (E7.out.grown g8 (fun q hq => by injection hq with hq; have := G7.out; omega)); have Y8 := Lib.hid (Y7.out.grown g8 (by have := G7.out; intro hh; injection hh; omega)); have O8 : Hid (OwnA w8 w4.heap.size { a with cap := r.n } A5 c5 A6 c6) := O7.out.keep g8 F7.out.1 F7.out.2; clear hs k8 g8 r0 r1 r2 r3 r4 r5 z0 z1 z2 z3 z4 z5 z6)
      | ((with_reducible show wpList _ _ _ ({ dst := some 73, op := Op.load 26 _, type := _, pos := _, after := _, guard := _ } :: _) _ _); refine ldA _ rfl 26 26 _ rfl g7 rfl _ _ Z8.out Tryd.underlying26 rfl size_acct ?_)
      | ((with_reducible show wpList _ _ _ ({ dst := none, op := Op.store 26 (Operand.tmp 4) _, type := _, pos := _, after := _, guard := _ } :: _) _ _); refine stA _ rfl 26 26 _ _ rfl g4 _ (acV { a with cap := r.n } A5 c5 A6 c6) rfl rfl Y8.out size_acct rfl (ac_one _ _ _ _ _) ?_; intro wf hs kf gf; have Zf := Lib.hid kf; have Ef := Lib.hid (E8.out.grown gf (fun q hq => by injection hq with hq; have := G4.out; omega)); have Of := Lib.hid ((O8.out.keep gf F4.out.1 F4.out.2).lower (by have := E4.out.size; omega)); clear hs kf gf))
      exact ret_rowT Tryd.results15 g4 _ _ _ _ rfl rfl Zf.out Tryd.underlying26 rfl size_acct (by rw [HAP.out]; exact ⟨A5, c5, A6, c6, rfl, Of.out, Ef.out⟩)
    · have HAP : Hid (appA a r = { a with bits := r.bits }) := by show _ = _; unfold appA; simp only [hk]; rfl
      go_wp2_with (first
      | ((with_reducible show wpList _ _ _ ({ dst := some 7, op := Op.alloc 26, type := _, pos := _, after := _, guard := _ } :: _) _ _); refine alA _ rfl 26 rfl _ _ zero_acct ?_; intro g7 w6 hg hs1 k1 e1; have G7 := Lib.hid (show g4 < g7 ∧ w.heap.size ≤ g7 ∧ w5.heap.size = g7 from ⟨by have := Y5.out.lt; omega, by have := E5.out.size; omega, hg⟩); have F7 := Lib.hid (O5.out.off (.inr (Nat.le_of_eq hg))); have X6 := Lib.hid (X5.out.ext e1); have R6 := Lib.hid (R5.out.ext e1); have Y6 := Lib.hid (Y5.out.ext e1); have Z6 := Lib.hid k1; have O6 := Lib.hid (O5.out.ext e1); have E6 := Lib.hid (E5.out.trans e1); clear hg hs1 k1 e1)
      | ((with_reducible show wpList _ _ _ ({ dst := none, op := Op.store 26 (Operand.tmp 7) _, type := _, pos := _, after := _, guard := _ } :: _) _ _); refine stA _ rfl 26 26 _ _ rfl g7 _ (acV a A5 c5 A6 c6) rfl rfl Z6.out size_acct rfl (ac_one _ _ _ _ _) ?_; intro w7 hs k7 g7'; have Z7 := Lib.hid k7; have E7 := Lib.hid (E6.out.grown g7' (fun q hq => by injection hq with hq; have := G7.out; omega)); have X7 := Lib.hid (X6.out.grown g7' (by have := G7.out; have := G4.out; intro hh; injection hh; omega)); have R7 := Lib.hid (R6.out.grown g7' (by have := G7.out; have := G4.out; intro hh; injection hh; omega)); have Y7 := Lib.hid (Y6.out.grown g7' (by have := G7.out; intro hh; injection hh; omega)); have O7 := Lib.hid (O6.out.keep g7' F7.out.1 F7.out.2); obtain ⟨r0, r1, r2, r3, r4, r5⟩ := rc_cells R7.out; obtain ⟨z0, z1, z2, z3, z4, z5, z6⟩ := ac_cells Z7.out; clear hs k7 g7')
      | ((with_reducible show wpList _ _ _ ({ dst := none, op := Op.store 22 _ _, type := _, pos := _, after := _, guard := _ } :: _) _ _); refine stF _ rfl 22 _ _ rfl g7 3 (.int .u64 r.bits) _ _ rfl rfl Z7.out (by show 3 < 7; decide) size_u64 rfl ?_; intro w8 hs k8 g8; have Z8 := Lib.hid (show Arr w8 g7 26 (acV { a with bits := r.bits } A5 c5 A6 c6) from k8); have E8 := Lib.hid (E7.out.grown g8 (fun q hq => by injection hq with hq; have := G7.out; omega)); have Y8 := Lib.hid (Y7.out.grown g8 (by have := G7.out; intro hh; injection hh; omega)); have O8 : Hid (OwnA w8 w4.heap.size { a with bits := r.bits } A5 c5 A6 c6) := O7.out.keep g8 F7.out.1 F7.out.2; clear hs k8 g8 r0 r1 r2 r3 r4 r5 z0 z1 z2 z3 z4 z5 z6)
      | ((with_reducible show wpList _ _ _ ({ dst := some 73, op := Op.load 26 _, type := _, pos := _, after := _, guard := _ } :: _) _ _); refine ldA _ rfl 26 26 _ rfl g7 rfl _ _ Z8.out Tryd.underlying26 rfl size_acct ?_)
      | ((with_reducible show wpList _ _ _ ({ dst := none, op := Op.store 26 (Operand.tmp 4) _, type := _, pos := _, after := _, guard := _ } :: _) _ _); refine stA _ rfl 26 26 _ _ rfl g4 _ (acV { a with bits := r.bits } A5 c5 A6 c6) rfl rfl Y8.out size_acct rfl (ac_one _ _ _ _ _) ?_; intro wf hs kf gf; have Zf := Lib.hid kf; have Ef := Lib.hid (E8.out.grown gf (fun q hq => by injection hq with hq; have := G4.out; omega)); have Of := Lib.hid ((O8.out.keep gf F4.out.1 F4.out.2).lower (by have := E4.out.size; omega)); clear hs kf gf))
      exact ret_rowT Tryd.results15 g4 _ _ _ _ rfl rfl Zf.out Tryd.underlying26 rfl size_acct (by rw [HAP.out]; exact ⟨A5, c5, A6, c6, rfl, Of.out, Ef.out⟩)
    · have HAP : Hid (appA a r = ({ a with ls := a.ls ++ [⟨r.lease, r.n⟩] } : Ac)) := by show _ = _; unfold appA; simp only [hk]; rfl
      have hlen : (({ a with ls := a.ls ++ [⟨r.lease, r.n⟩] } : Ac)).ls.length = a.ls.length + 1 := by simp
      have HLEN := Lib.hid hlen
      clear hlen
      go_wp2_with (first
      | ((with_reducible show wpList _ _ _ ({ dst := some 7, op := Op.alloc 26, type := _, pos := _, after := _, guard := _ } :: _) _ _); refine alA _ rfl 26 rfl _ _ zero_acct ?_; intro g7 w6 hg hs1 k1 e1; have G7 := Lib.hid (show g4 < g7 ∧ w.heap.size ≤ g7 ∧ w5.heap.size = g7 from ⟨by have := Y5.out.lt; omega, by have := E5.out.size; omega, hg⟩); have F7 := Lib.hid (O5.out.off (.inr (Nat.le_of_eq hg))); have X6 := Lib.hid (X5.out.ext e1); have R6 := Lib.hid (R5.out.ext e1); have Y6 := Lib.hid (Y5.out.ext e1); have Z6 := Lib.hid k1; have O6 := Lib.hid (O5.out.ext e1); have E6 := Lib.hid (E5.out.trans e1); clear hg hs1 k1 e1)
      | ((with_reducible show wpList _ _ _ ({ dst := none, op := Op.store 26 (Operand.tmp 7) _, type := _, pos := _, after := _, guard := _ } :: _) _ _); refine stA _ rfl 26 26 _ _ rfl g7 _ (acV a A5 c5 A6 c6) rfl rfl Z6.out size_acct rfl (ac_one _ _ _ _ _) ?_; intro w7 hs k7 g7'; have Z7 := Lib.hid k7; have E7 := Lib.hid (E6.out.grown g7' (fun q hq => by injection hq with hq; have := G7.out; omega)); have X7 := Lib.hid (X6.out.grown g7' (by have := G7.out; have := G4.out; intro hh; injection hh; omega)); have R7 := Lib.hid (R6.out.grown g7' (by have := G7.out; have := G4.out; intro hh; injection hh; omega)); have Y7 := Lib.hid (Y6.out.grown g7' (by have := G7.out; intro hh; injection hh; omega)); have O7 := Lib.hid (O6.out.keep g7' F7.out.1 F7.out.2); obtain ⟨r0, r1, r2, r3, r4, r5⟩ := rc_cells R7.out; obtain ⟨z0, z1, z2, z3, z4, z5, z6⟩ := ac_cells Z7.out; clear hs k7 g7')
      | (at_builtin; refine appV _ rfl (.tmp 32) (.tmp 38) 23 rfl 64 (.agg #[.int .u64 0, .int .u64 0]) 2 16 Tryd.underlying23 info_lease rfl (by decide) w4.heap.size A5 a.ls.length c5 (a.ls.flatMap Lz.cs) rfl ⟨w7.heap.size, 0, none⟩ 1 1 (Lz.cs ⟨r.lease, r.n⟩) rfl ?_ (O7.out.1.ext ((Ext.refl _).alloc _)) rfl (cells_new w7 _ _) (by intro u hu; simp [Lz.cs] at hu; rcases hu with rfl | rfl <;> rfl) (by omega) (by omega) (by have := S5.out; have := G7.out; have := Z7.out.lt; simp; omega); intro A8 c8 w8 h8 g8 b8; have Z8 := Lib.hid ((Z7.out.ext ((Ext.refl _).alloc _)).off g8 F7.out.1); have Y8 := Lib.hid ((Y7.out.ext ((Ext.refl _).alloc _)).off g8 F4.out.1); have E8 := Lib.hid (own_base E7.out O7.out.1 ((Ext.refl _).alloc _) (by have := E4.out.size; omega) g8); have O8 := Lib.hid (own_app_ls (l := ⟨r.lease, r.n⟩) O7.out ((Ext.refl _).alloc _) h8 g8 b8); have F8 := Lib.hid (O8.out.2 g4 (by have := Y7.out.lt; simp; omega) F4.out.1); have F9 := Lib.hid (O8.out.2 g7 (by have := Z7.out.lt; simp; omega) F7.out.1); clear h8 g8 b8 r0 r1 r2 r3 r4 r5 z0 z1 z2 z3 z4 z5 z6)
      | ((with_reducible show wpList _ _ _ ({ dst := none, op := Op.store 23 _ _, type := _, pos := _, after := _, guard := _ } :: _) _ _); refine stF _ rfl 23 _ _ rfl g7 5 (.slice A8 (({ a with ls := a.ls ++ [⟨r.lease, r.n⟩] } : Ac)).ls.length c8) _ _ rfl (by rw [HLEN.out]; rfl) Z8.out (by show 5 < 7; decide) size_lsl rfl ?_; intro w9 hs k9 g9; have Z9 := Lib.hid (show Arr w9 g7 26 (acV ({ a with ls := a.ls ++ [⟨r.lease, r.n⟩] } : Ac) A8 c8 A6 c6) from k9); have E9 := Lib.hid (E8.out.grown g9 (fun q hq => by injection hq with hq; have := G7.out; omega)); have Y9 := Lib.hid (Y8.out.grown g9 (by have := G7.out; intro hh; injection hh; omega)); have O9 := Lib.hid (O8.out.1.keep g9 F9.out F7.out.2); have FF := Lib.hid (And.intro F8.out F4.out.2); clear hs k9 g9)
      | ((with_reducible show wpList _ _ _ ({ dst := some 73, op := Op.load 26 _, type := _, pos := _, after := _, guard := _ } :: _) _ _); refine ldA _ rfl 26 26 _ rfl g7 rfl _ _ Z9.out Tryd.underlying26 rfl size_acct ?_)
      | ((with_reducible show wpList _ _ _ ({ dst := none, op := Op.store 26 (Operand.tmp 4) _, type := _, pos := _, after := _, guard := _ } :: _) _ _); refine stA _ rfl 26 26 _ _ rfl g4 _ (acV ({ a with ls := a.ls ++ [⟨r.lease, r.n⟩] } : Ac) A8 c8 A6 c6) rfl rfl Y9.out size_acct rfl (ac_one _ _ _ _ _) ?_; intro wf hs kf gf; have Zf := Lib.hid kf; have Ef := Lib.hid (E9.out.grown gf (fun q hq => by injection hq with hq; have := G4.out; omega)); have Of := Lib.hid ((O9.out.keep gf FF.out.1 FF.out.2).lower (by have := E4.out.size; omega)); clear hs kf gf))
      exact ret_rowT Tryd.results15 g4 _ _ _ _ rfl rfl Zf.out Tryd.underlying26 rfl size_acct (by rw [HAP.out]; exact ⟨A8, c8, A6, c6, rfl, Of.out, Ef.out⟩)
    · obtain ⟨l, hf, hn⟩ := chk_settle (a := a) (lease := r.lease) (n := r.n) (by have := (chk_zero H0.out).2.2; rw [hk] at this; exact this)
      have hany : a.ls.any (fun l => decide (l.id = r.lease)) = true := List.any_eq_true.2 ⟨l, List.mem_of_find?_eq_some hf, List.find?_some (p := fun l : Lz => decide (l.id = r.lease)) hf⟩
      obtain ⟨k, hkl, hz, _, hix⟩ := find_at hany
      have HAP : Hid (appA a r = ({ a with ls := a.ls.eraseIdx k, used := addN a.used r.n } : Ac)) := by show _ = _; unfold appA; simp only [hk, idx, hix]; rfl
      have HFI : Hid (∀ W B, RdE Lz.cs W A5 a.ls → W.cell? ⟨B, 0, none⟩ = some (.int .u64 r.lease) → Calls Tryd.prog 55 #[.slice A5 a.ls.length c5, .func (.func 99) #[] #[.pointer (some ⟨B, 0, none⟩)]] W (RetV W (.int .i64 (k : Int)))) :=
        fun W B e h => by have := afind_calls 99 _ _ eg_num A5 c5 a.ls W e OK.out.2.2.2.2.2.1 l1 (pred_num r.lease B W h); rw [hz] at this; exact this
      have HAD : Hid (∀ W, Calls Tryd.prog 57 #[.int .u64 a.used, .int .u64 r.n] W fun e w' => e = .returned (.int .u64 (addN a.used r.n)) ∧ W = w') := fun W => add_calls a.used r.n W OK.out.2.2.1 RK.out.2.2.1
      have HUL : Hid (addN a.used r.n < 18446744073709551616) := by show _ < _; rw [addN_eq]; omega
      clear hf hn hany hz hix
      go_wp2_with (first
      | ((with_reducible show wpList _ _ _ ({ dst := some 7, op := Op.alloc 26, type := _, pos := _, after := _, guard := _ } :: _) _ _); refine alA _ rfl 26 rfl _ _ zero_acct ?_; intro g7 w6 hg hs1 k1 e1; have G7 := Lib.hid (show g4 < g7 ∧ w.heap.size ≤ g7 ∧ w5.heap.size = g7 from ⟨by have := Y5.out.lt; omega, by have := E5.out.size; omega, hg⟩); have F7 := Lib.hid (O5.out.off (.inr (Nat.le_of_eq hg))); have X6 := Lib.hid (X5.out.ext e1); have R6 := Lib.hid (R5.out.ext e1); have Y6 := Lib.hid (Y5.out.ext e1); have Z6 := Lib.hid k1; have O6 := Lib.hid (O5.out.ext e1); have E6 := Lib.hid (E5.out.trans e1); clear hg hs1 k1 e1)
      | ((with_reducible show wpList _ _ _ ({ dst := none, op := Op.store 26 (Operand.tmp 7) _, type := _, pos := _, after := _, guard := _ } :: _) _ _); refine stA _ rfl 26 26 _ _ rfl g7 _ (acV a A5 c5 A6 c6) rfl rfl Z6.out size_acct rfl (ac_one _ _ _ _ _) ?_; intro w7 hs k7 g7'; have Z7 := Lib.hid k7; have E7 := Lib.hid (E6.out.grown g7' (fun q hq => by injection hq with hq; have := G7.out; omega)); have X7 := Lib.hid (X6.out.grown g7' (by have := G7.out; have := G4.out; intro hh; injection hh; omega)); have R7 := Lib.hid (R6.out.grown g7' (by have := G7.out; have := G4.out; intro hh; injection hh; omega)); have Y7 := Lib.hid (Y6.out.grown g7' (by have := G7.out; intro hh; injection hh; omega)); have O7 := Lib.hid (O6.out.keep g7' F7.out.1 F7.out.2); obtain ⟨r0, r1, r2, r3, r4, r5⟩ := rc_cells R7.out; obtain ⟨z0, z1, z2, z3, z4, z5, z6⟩ := ac_cells Z7.out; clear hs k7 g7'))
      have HO7 : Hid (∀ W, Ext w7 W → RdE Lz.cs W A5 a.ls) := fun W e => O7.out.rd.1.ext e
      have HC7 : Hid (∀ W, Ext w7 W → W.cell? ⟨g7, 5, none⟩ = some (.slice A5 a.ls.length c5) ∧ W.cell? ⟨g3, 3, none⟩ = some (.int .u64 r.lease)) := fun W e => ⟨(Z7.out.ext e).cell 5, (R7.out.ext e).cell 3⟩
      have HWO : Hid (∀ W, Ext w7 W → Calls Tryd.prog 54 #[.slice A5 a.ls.length c5, .int .i64 k] W (fun e w' => ∃ A c, e = .returned (.slice A (a.ls.eraseIdx k).length c) ∧ OwnV w' w7.heap.size 64 2 A (a.ls.eraseIdx k).length c ((a.ls.eraseIdx k).flatMap Lz.cs) ∧ Ext W w')) := fun W e => (without_calls A5 c5 k a.ls W (HO7.out W e) l1 hkl O5.out.1.cap O5.out.1.capmax).mono fun _ _ ⟨A, c, h1, h2, h3⟩ => ⟨A, c, h1, h2.lower e.size, h3⟩
      have f7 := Z7.out.frozen 5
      clear r0 r1 r2 r4 r5 z0 z1 z2 z3 z4 z6
      go_region_with (first | (go_at_call 56; refine (numbered_any r.lease _).mono ?_; rintro e w8 ⟨B, rfl, hB, e8⟩; have T8 : Ext w7 w8 := Ext.trans (by first | exact (Ext.refl _).drew | assumption | exact Ext.refl _) e8; have d8 := HC7.out _ T8; obtain ⟨d8, d9⟩ := d8; clear e8) | (go_at_call 55; refine (HFI.out _ _ (HO7.out _ (by first | exact (Ext.refl _).drew | assumption | exact Ext.refl _)) (by first | assumption)).mono ?_; rintro e w9 ⟨rfl, e9⟩; have T9 : Ext w7 w9 := Ext.trans (by first | exact (Ext.refl _).drew | assumption | exact Ext.refl _) e9; have d10 := HC7.out _ T9; obtain ⟨d10, d11⟩ := d10; clear e9) | (go_at_call 54; refine (HWO.out _ (by first | exact (Ext.refl _).drew | assumption | exact Ext.refl _)).mono ?_; rintro e w10 ⟨A8, c8, rfl, o10, e10⟩; have T10 : Ext w7 w10 := Ext.trans (by first | exact (Ext.refl _).drew | assumption | exact Ext.refl _) e10; have O10 := Lib.hid o10; have d12 := HC7.out _ T10; obtain ⟨d12, d13⟩ := d12; have f10 := (Z7.out.ext T10).frozen 5; have S10 : w7.heap.size ≤ w10.heap.size := T10.size; clear o10 e10))
      all_goals
        have Z11 := Lib.hid (show Arr (w10.setCell ⟨g7, 5, none⟩ (.slice A8 (a.ls.eraseIdx k).length c8)) g7 26 (acV ({ a with ls := a.ls.eraseIdx k } : Ac) A8 c8 A6 c6) from (Z7.out.ext T10).set 5 _)
        have R11 := Lib.hid ((R7.out.ext T10).other (h := g7) (by have := G4.out; have := G7.out; omega) 5 (.slice A8 (a.ls.eraseIdx k).length c8))
        have Y11 := Lib.hid ((Y7.out.ext T10).other (h := g7) (by have := G7.out; omega) 5 (.slice A8 (a.ls.eraseIdx k).length c8))
        have E11 := Lib.hid ((E7.out.trans T10).setCell (p := ⟨g7, 5, none⟩) (by have := G7.out; exact this.2.1) (.slice A8 (a.ls.eraseIdx k).length c8))
        have O12 := Lib.hid (own_new_ls O7.out T10 O10.out (by have := S5.out; have := G7.out; have := Z7.out.lt; omega))
        have F8 := Lib.hid (O12.out.2 g7 Z7.out.lt)
        have F9 := Lib.hid (And.intro (O12.out.2 g4 Y7.out.lt) F4.out.2)
        have O11 := Lib.hid (O12.out.1.keep (grown_setCell w10 g7 5 (.slice A8 (a.ls.eraseIdx k).length c8)) F8.out F7.out.2)
        clear O12 O10 T10 d12 d13 f10 S10 HFI HWO HC7 HO7
        generalize w10.setCell ⟨g7, 5, none⟩ (.slice A8 (a.ls.eraseIdx k).length c8) = w11 at *
        obtain ⟨r0, r1, r2, r3, r4, r5⟩ := rc_cells R11.out
        obtain ⟨z0, z1, z2, z3, z4, z5, z6⟩ := ac_cells Z11.out
        simp only at z2
        clear r0 r1 r2 r3 r5 z0 z1 z3 z4 z5 z6
        go_wp2_with (first
          | (go_at_call 57; refine (HAD.out _).mono ?_; rintro e w12 ⟨rfl, rfl⟩)
          | ((with_reducible show wpList _ _ _ ({ dst := none, op := Op.store 22 _ _, type := _, pos := _, after := _, guard := _ } :: _) _ _); refine stF _ rfl 22 _ _ rfl g7 2 (.int .u64 (addN a.used r.n)) _ _ rfl rfl Z11.out (by show 2 < 7; decide) size_u64 rfl ?_; intro w13 hs k8 g8; have Z13 := Lib.hid (show Arr w13 g7 26 (acV ({ a with ls := a.ls.eraseIdx k, used := addN a.used r.n } : Ac) A8 c8 A6 c6) from k8); have E13 := Lib.hid (E11.out.grown g8 (fun q hq => by injection hq with hq; have := G7.out; omega)); have Y13 := Lib.hid (Y11.out.grown g8 (by have := G7.out; intro hh; injection hh; omega)); have O13 : Hid (OwnA w13 w4.heap.size ({ a with ls := a.ls.eraseIdx k, used := addN a.used r.n } : Ac) A8 c8 A6 c6) := O11.out.keep g8 F8.out F7.out.2; clear hs k8 g8 r4 z2)
          | ((with_reducible show wpList _ _ _ ({ dst := some 73, op := Op.load 26 _, type := _, pos := _, after := _, guard := _ } :: _) _ _); refine ldA _ rfl 26 26 _ rfl g7 rfl _ _ Z13.out Tryd.underlying26 rfl size_acct ?_)
          | ((with_reducible show wpList _ _ _ ({ dst := none, op := Op.store 26 (Operand.tmp 4) _, type := _, pos := _, after := _, guard := _ } :: _) _ _); refine stA _ rfl 26 26 _ _ rfl g4 _ (acV ({ a with ls := a.ls.eraseIdx k, used := addN a.used r.n } : Ac) A8 c8 A6 c6) rfl rfl Y13.out size_acct rfl (ac_one _ _ _ _ _) ?_; intro wf hs kf gf; have Zf := Lib.hid kf; have Ef := Lib.hid (E13.out.grown gf (fun q hq => by injection hq with hq; have := G4.out; omega)); have Of := Lib.hid ((O13.out.keep gf F9.out.1 F9.out.2).lower (by have := E4.out.size; omega)); clear hs kf gf))
        exact ret_rowT Tryd.results15 g4 _ _ _ _ rfl rfl Zf.out Tryd.underlying26 rfl size_acct (by rw [HAP.out]; exact ⟨A8, c8, A6, c6, rfl, Of.out, Ef.out⟩)
    · have HAP : Hid (appA a r = ({ a with cl := a.cl ++ [stmtOf a], per := a.per + 1, used := 0 } : Ac)) := by show _ = _; unfold appA; simp only [hk]; rfl
      have hper : a.per < 65536 := (chk_close (a := a) (lease := r.lease) (n := r.n) (by have := (chk_zero H0.out).2.2; rw [hk] at this; exact this)).2
      have uper : IntKind.u64.wrap ((a.per : Int) + 1) = ((a.per + 1 : Nat) : Int) := by rw [IntWalk.u64_in _ (by omega)]; omega
      have HST0 : Hid (∀ W, Laid W → Calls Tryd.prog 58 #[(.agg #[.string a.ten, .int .u64 a.cap, .int .u64 a.used, .int .u64 a.bits, .int .u64 a.per, .slice AL a.ls.length cL, .slice AC a.cl.length cC])] W (RetV W (.agg (stV (stmtOf a))))) := fun W e => astmt_calls a AL AC cL cC W OK.out e
      generalize stmtOf a = s at *
      have HLEN : Hid ((({ a with cl := a.cl ++ [s] } : Ac)).cl.length = a.cl.length + 1) := by show _ = _; simp
      go_wp2_with (first
      | ((with_reducible show wpList _ _ _ ({ dst := some 7, op := Op.alloc 26, type := _, pos := _, after := _, guard := _ } :: _) _ _); refine alA _ rfl 26 rfl _ _ zero_acct ?_; intro g7 w6 hg hs1 k1 e1; have G7 := Lib.hid (show g4 < g7 ∧ w.heap.size ≤ g7 ∧ w5.heap.size = g7 from ⟨by have := Y5.out.lt; omega, by have := E5.out.size; omega, hg⟩); have F7 := Lib.hid (O5.out.off (.inr (Nat.le_of_eq hg))); have X6 := Lib.hid (X5.out.ext e1); have R6 := Lib.hid (R5.out.ext e1); have Y6 := Lib.hid (Y5.out.ext e1); have Z6 := Lib.hid k1; have O6 := Lib.hid (O5.out.ext e1); have E6 := Lib.hid (E5.out.trans e1); clear hg hs1 k1 e1)
      | ((with_reducible show wpList _ _ _ ({ dst := none, op := Op.store 26 (Operand.tmp 7) _, type := _, pos := _, after := _, guard := _ } :: _) _ _); refine stA _ rfl 26 26 _ _ rfl g7 _ (acV a A5 c5 A6 c6) rfl rfl Z6.out size_acct rfl (ac_one _ _ _ _ _) ?_; intro w7 hs k7 g7'; have Z7 := Lib.hid k7; have E7 := Lib.hid (E6.out.grown g7' (fun q hq => by injection hq with hq; have := G7.out; omega)); have X7 := Lib.hid (X6.out.grown g7' (by have := G7.out; have := G4.out; intro hh; injection hh; omega)); have R7 := Lib.hid (R6.out.grown g7' (by have := G7.out; have := G4.out; intro hh; injection hh; omega)); have Y7 := Lib.hid (Y6.out.grown g7' (by have := G7.out; intro hh; injection hh; omega)); have O7 := Lib.hid (O6.out.keep g7' F7.out.1 F7.out.2); obtain ⟨r0, r1, r2, r3, r4, r5⟩ := rc_cells R7.out; obtain ⟨z0, z1, z2, z3, z4, z5, z6⟩ := ac_cells Z7.out; clear hs k7 g7'))
      have HST : Hid (∀ W, Ext w7 W → Calls Tryd.prog 58 #[(.agg #[.string a.ten, .int .u64 a.cap, .int .u64 a.used, .int .u64 a.bits, .int .u64 a.per, .slice AL a.ls.length cL, .slice AC a.cl.length cC])] W (RetV W (.agg #[.string s.ten, .int .u64 s.per, .int .u64 s.used, .int .u64 s.cap, .int .u64 s.bits, .int .u64 s.due]))) := fun W e => HST0.out W (HL.out.ext (E7.out.trans e))
      obtain ⟨a0, a1, a2, a3, a4, a5, a6⟩ := ac_cells X7.out
      clear r0 r1 r2 r3 r4 r5 z0 z1 z2 z3 z4 z5
      have f7 := Z7.out.frozen 6
      have OF3 := Lib.hid (show Off A6 g3 from fun k hk => by have := O7.out.2.1.base_ k hk; have := R4.out.lt; omega)
      go_region_law (first | (go_simp; go_at_call 58; refine (HST.out _ (by first | exact (Ext.refl _).drew | assumption | exact Ext.refl _)).mono ?_; rintro e w8 ⟨rfl, e8⟩; have T8 : Ext w7 w8 := Ext.trans (by first | exact (Ext.refl _).drew | assumption | exact Ext.refl _) e8; have d8 : w8.cell? ⟨g7, 6, none⟩ = some (.slice A6 a.cl.length c6) := (Z7.out.ext T8).cell 6; have da8 : ∀ ob, (w8.alloc ob).cell? ⟨g7, 6, none⟩ = some (.slice A6 a.cl.length c6) := fun ob => ((Z7.out.ext T8).ext ((Ext.refl _).alloc ob)).cell 6; clear e8) | (refine stepV _ (by rfl) (.tmp 62) (.tmp 65) 24 (by rfl) 70 (.agg #[.string ByteArray.empty, .int .u64 0, .int .u64 0, .int .u64 0, .int .u64 0, .int .u64 0]) 6 56 Tryd.underlying24 info_stmt rfl (by decide) w4.heap.size A6 a.cl.length c6 (a.cl.flatMap St.cs) (by rfl) ⟨w8.heap.size, 0, none⟩ 1 1 (St.cs s) (by rfl) ?_ ((O7.out.2.1.ext T8).ext ((Ext.refl _).alloc _)) rfl (cells_new w8 _ _) (by intro u hu; simp [St.cs] at hu; rcases hu with rfl | rfl | rfl | rfl | rfl | rfl <;> rfl) (by omega) (by omega) (by have := S5.out; have := G7.out; have := Z7.out.lt; have := T8.size; simp; omega); intro A10 c10 w10 h10 g10 b10; have Z10 := Lib.hid (((Z7.out.ext T8).ext ((Ext.refl _).alloc _)).off g10 F7.out.2); have R10 := Lib.hid (((R7.out.ext T8).ext ((Ext.refl _).alloc _)).off g10 OF3.out); have Y10 := Lib.hid (((Y7.out.ext T8).ext ((Ext.refl _).alloc _)).off g10 F4.out.2); have E10 := Lib.hid (own_base (E7.out.trans T8) (O7.out.2.1.ext T8) ((Ext.refl _).alloc _) (by have := E4.out.size; omega) g10); have O10 := Lib.hid (own_app_cl (l := s) (O7.out.ext T8) ((Ext.refl _).alloc _) h10 g10 b10); have F8 := Lib.hid (O10.out.2 g4 (by have := (Y7.out.ext T8).lt; simp; omega) F4.out.2); have F9 := Lib.hid (O10.out.2 g7 (by have := (Z7.out.ext T8).lt; simp; omega) F7.out.2); have f10 := Z10.out.frozen 6; have d10 : w10.cell? ⟨g7, 6, none⟩ = some (.slice A6 a.cl.length c6) := Z10.out.cell 6; clear h10 g10 b10))
      all_goals
        have Z11 : Hid (Arr (w10.setCell ⟨g7, 6, none⟩ (.slice A10 (a.cl.length + 1) c10)) g7 26 (acV ({ a with cl := a.cl ++ [s] } : Ac) A5 c5 A10 c10)) := by
          have hz := Z10.out.set 6 (.slice A10 (a.cl.length + 1) c10)
          rw [← HLEN.out] at hz ⊢
          exact hz
        have Y11 := Lib.hid (Y10.out.other (h := g7) (by have := G7.out; omega) 6 (.slice A10 (a.cl.length + 1) c10))
        have E11 := Lib.hid (E10.out.setCell (p := ⟨g7, 6, none⟩) (by have := G7.out; exact this.2.1) (.slice A10 (a.cl.length + 1) c10))
        have O11 := Lib.hid (O10.out.1.keep (grown_setCell w10 g7 6 (.slice A10 (a.cl.length + 1) c10)) F7.out.1 F9.out)
        have FF := Lib.hid (And.intro F4.out.1 F8.out)
        clear O10 T8 d8 da8 f10 d10 HST HST0
        generalize w10.setCell ⟨g7, 6, none⟩ (.slice A10 (a.cl.length + 1) c10) = w11 at *
        obtain ⟨z0, z1, z2, z3, z4, z5, z6⟩ := ac_cells Z11.out
        simp only at z4
        clear z0 z1 z2 z3 z5 z6
        go_wp2_with (first
          | ((with_reducible show wpList _ _ _ ({ dst := none, op := Op.store 22 (Operand.tmp 71) _, type := _, pos := _, after := _, guard := _ } :: _) _ _); refine stF _ rfl 22 _ _ rfl g7 4 (.int .u64 ((a.per + 1 : Nat) : Int)) _ _ rfl (by first | rfl | (simp only [Act.eval]; simp)) Z11.out (by show 4 < 7; decide) size_u64 rfl ?_; intro w12 hs k8 g8; have Z12 := Lib.hid (show Arr w12 g7 26 (acV ({ a with cl := a.cl ++ [s], per := a.per + 1 } : Ac) A5 c5 A10 c10) from k8); have E12 := Lib.hid (E11.out.grown g8 (fun q hq => by injection hq with hq; have := G7.out; omega)); have Y12 := Lib.hid (Y11.out.grown g8 (by have := G7.out; intro hh; injection hh; omega)); have O12 : Hid (OwnA w12 w4.heap.size ({ a with cl := a.cl ++ [s], per := a.per + 1 } : Ac) A5 c5 A10 c10) := O11.out.keep g8 F7.out.1 F9.out; clear hs k8 g8 z4)
          | ((with_reducible show wpList _ _ _ ({ dst := none, op := Op.store 22 (Operand.tmp 72) _, type := _, pos := _, after := _, guard := _ } :: _) _ _); refine stF _ rfl 22 _ _ rfl g7 2 (.int .u64 0) _ _ rfl rfl Z12.out (by show 2 < 7; decide) size_u64 rfl ?_; intro w13 hs k8 g8; have Z13 := Lib.hid (show Arr w13 g7 26 (acV ({ a with cl := a.cl ++ [s], per := a.per + 1, used := 0 } : Ac) A5 c5 A10 c10) from k8); have E13 := Lib.hid (E12.out.grown g8 (fun q hq => by injection hq with hq; have := G7.out; omega)); have Y13 := Lib.hid (Y12.out.grown g8 (by have := G7.out; intro hh; injection hh; omega)); have O13 : Hid (OwnA w13 w4.heap.size ({ a with cl := a.cl ++ [s], per := a.per + 1, used := 0 } : Ac) A5 c5 A10 c10) := O12.out.keep g8 F7.out.1 F9.out; clear hs k8 g8)
          | ((with_reducible show wpList _ _ _ ({ dst := some 73, op := Op.load 26 _, type := _, pos := _, after := _, guard := _ } :: _) _ _); refine ldA _ rfl 26 26 _ rfl g7 rfl _ _ Z13.out Tryd.underlying26 rfl size_acct ?_)
          | ((with_reducible show wpList _ _ _ ({ dst := none, op := Op.store 26 (Operand.tmp 4) _, type := _, pos := _, after := _, guard := _ } :: _) _ _); refine stA _ rfl 26 26 _ _ rfl g4 _ (acV ({ a with cl := a.cl ++ [s], per := a.per + 1, used := 0 } : Ac) A5 c5 A10 c10) rfl rfl Y13.out size_acct rfl (ac_one _ _ _ _ _) ?_; intro wf hs kf gf; have Zf := Lib.hid kf; have Ef := Lib.hid (E13.out.grown gf (fun q hq => by injection hq with hq; have := G4.out; omega)); have Of := Lib.hid ((O13.out.keep gf FF.out.1 FF.out.2).lower (by have := E4.out.size; omega)); clear hs kf gf))
        exact ret_rowT Tryd.results15 g4 _ _ _ _ rfl rfl Zf.out Tryd.underlying26 rfl size_acct (by rw [HAP.out]; exact ⟨A5, c5, A10, c10, rfl, Of.out, Ef.out⟩)
  · rw [if_neg h0]
    have h1 : (chkA a r != 0) = true := by simpa using h0
    clear HZ h0
    generalize chkA a r = E at *
    unfold acA rcA
    go_enter Tryd.func15, Tryd.ntmps15
    go_wp2_with (first
      | ((with_reducible show wpList _ _ _ ({ dst := some 2, op := Op.box 26 _, type := _, pos := _, after := _, guard := _ } :: _) _ _); refine bxA _ rfl 26 _ rfl _ rfl ?_; intro g1 w1 hg hs1 k1 e1; have X1 := Lib.hid k1; have E1 := Lib.hid e1; clear hg hs1 k1 e1)
      | ((with_reducible show wpList _ _ _ ({ dst := some 3, op := Op.box 28 _, type := _, pos := _, after := _, guard := _ } :: _) _ _); refine bxA _ rfl 28 _ rfl _ rfl ?_; intro g3 w2 hg hs1 k1 e1; have R2 := Lib.hid k1; have X2 := Lib.hid (X1.out.ext e1); have E2 := Lib.hid (E1.out.trans e1); clear hg hs1 k1 e1)
      | ((with_reducible show wpList _ _ _ ({ dst := some 4, op := Op.alloc 26, type := _, pos := _, after := _, guard := _ } :: _) _ _); refine alA _ rfl 26 rfl _ _ zero_acct ?_; intro g4 w3 hg hs1 k1 e1; have G4 := Lib.hid (show w.heap.size ≤ g4 from by have := E2.out.size; omega); have X3 := Lib.hid (X2.out.ext e1); have R3 := Lib.hid (R2.out.ext e1); have Y3 := Lib.hid k1; have E3 := Lib.hid (E2.out.trans e1); obtain ⟨a0, a1, a2, a3, a4, a5, a6⟩ := ac_cells X3.out; obtain ⟨r0, r1, r2, r3, r4, r5⟩ := rc_cells R3.out; clear hg hs1 k1 e1))
    refine (HC.out _ E3.out).mono ?_
    rintro e w4 ⟨rfl, e4⟩
    have Y4 := Lib.hid (Y3.out.ext e4)
    have E4 := Lib.hid (E3.out.trans e4)
    clear e4 a0 a1 a2 a3 a4 a5 a6 r0 r1 r2 r3 r4 r5 HC
    go_wp2_with (first
      | ((with_reducible show wpList _ _ _ ({ dst := none, op := Op.store 26 (Operand.tmp 4) _, type := _, pos := _, after := _, guard := _ } :: _) _ _); refine stA _ rfl 26 26 _ _ rfl g4 _ (acV Ac0 none 0 none 0) rfl rfl Y4.out size_acct rfl (ac_one _ _ _ _ _) ?_; intro wf hs kf gf; have Zf := Lib.hid kf; have Ef := Lib.hid (E4.out.grown gf (fun q hq => by injection hq with hq; have := G4.out; omega)); clear hs kf gf))
    exact ret_rowT Tryd.results15 g4 _ _ _ _ rfl rfl Zf.out Tryd.underlying26 rfl size_acct ⟨none, 0, none, 0, rfl, OwnA.zero _ _, Ef.out⟩
end Go.Proofs.YtkbjnlbbfapgdaaDoor
