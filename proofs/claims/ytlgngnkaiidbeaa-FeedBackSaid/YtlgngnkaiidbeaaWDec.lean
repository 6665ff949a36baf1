/- wire.Decode: words, and its closures. -/
import Derived.Test.YtlgngnkaiidbeaaWEnc2
import Derived.Test.YtlgngnkaiidbeaaCursor2
import Derived.Laws.ResultCell
set_option maxRecDepth 100000
set_option linter.unusedVariables false
set_option linter.unusedSimpArgs false
namespace Go.Proofs.Ytlgngnkaiidbeaa
open Go.RowKit

/-- a cursor stays where another block, of no bytes, is written -/
theorem Cur.keep {w w1 : World} {g p : Nat} {bs : List UInt8} {k : Nat} {er : Int} {t : TypeId} {cs : Array Value} (h : Cur w g bs k er) (hg : w.grownBy w1 (some p)) (hp : g ≠ p) (ha : Arr w p t cs) (hu : ∀ v ∈ cs, ∀ n, v ≠ .int .u8 n) : Cur w1 g bs k er := by
  obtain ⟨A, c, h1, h2, h3, h4, h5, h6⟩ := h
  have hb : Arr w g 187 _ := h1
  refine ⟨A, c, hb.grown hg (by intro e; injection e with e; exact hp e), ?_, h3, h4, h5, h6⟩
  intro j u hj
  obtain ⟨ad, rfl, hc⟩ := h2 j u hj
  refine ⟨ad, rfl, ?_⟩
  have hne : some (ad.add j).block ≠ some p := by
    intro e
    injection e with e
    have hl := cell_lt hc
    have hcell : w.cell? (ad.add j) = some u := hc
    obtain ⟨b, hbv⟩ : ∃ b : UInt8, u = bv b := by
      rw [List.getElem?_map] at hj
      cases hq : bs[j]? with
      | none => rw [hq] at hj; cases hj
      | some b => rw [hq] at hj; exact ⟨b, by simpa using hj.symm⟩
    subst hbv
    unfold World.cell? at hcell
    rw [e, ha] at hcell
    simp only at hcell
    split at hcell
    · cases hcell
    · exact hu (bv b) (Array.mem_of_getElem? hcell) _ rfl
  rw [World.cell?_of_block (w := w) (hg.block _ (cell_lt hc) hne)]
  exact hc

/-- two results, the first in a variable -/
theorem ret_row2 {P : Program} {fn : Func} {p u : Tmp} {ty : TypeId} {w : World} {tmps : Array Value} {R : Ending → World → Prop} (h : fn.results = #[.cell p ty, .tmp u]) (g : Nat) (t : TypeId) (cs : Array Value) (d : TypeDesc) (x : Value)
    (hp : tmps.getD p undef = .pointer (some ⟨g, 0, none⟩)) (hx : tmps.getD u undef = x) (hg : Arr w g t cs)
    (hu : P.underlying ty = some d) (hd : (match d with | .struct _ | .array _ _ => true | _ => false) = true) (hi : (P.info? ty).map (·.size) = some cs.size)
    (hR : R (.returned (.tuple #[.agg cs, x])) w) : bodyPost P fn R Exit.ret { tmps := tmps, defers := [] } w := by
  refine bodyPost_ret (v := .tuple #[.agg cs, x]) ?_ rfl hR
  rw [results_cell_tmp h]
  simp only [hp, hx, asAddr, Sem.run_pure, Result.andThen_ok, run_loadVar_row w g t ty cs (0, 0) d hg hu hd hi]
theorem num1_lt (bs : List UInt8) (k : Nat) (er : Int) : (numC bs k er 1).1 < 256 := by
  have h : (numC bs k er 1).1 = leN (takeC bs k er 1).1 := rfl
  rw [h]
  have hl : (takeC bs k er 1).1.length ≤ 1 := by
    unfold takeC; split
    · simp
    · split <;> simp; omega
  generalize (takeC bs k er 1).1 = L at *
  match L, hl with
  | [], _ => decide
  | [x], _ => have := x.toNat_lt; simp [leN]; omega


theorem num2_lt (bs : List UInt8) (k : Nat) (er : Int) : (numC bs k er 2).1 < 65536 := by
  have h : (numC bs k er 2).1 = leN (takeC bs k er 2).1 := rfl
  rw [h]
  have hl : (takeC bs k er 2).1.length ≤ 2 := by
    unfold takeC; split
    · simp
    · split <;> simp; omega
  have := leN_lt (takeC bs k er 2).1
  have h2 : 256 ^ (takeC bs k er 2).1.length ≤ 256 ^ 2 := Nat.pow_le_pow_right (by omega) hl
  omega

/-- the cells of a frame -/
def fraV (k s n : Int) (t : ByteArray) (v : Value) : Array Value := #[.int .i64 k, .int .i64 s, .int .i64 n, .string t, v]
def zfra : Array Value := fraV 0 0 0 ByteArray.empty (.slice none 0 0)
theorem own_ne_arr {W : World} {base g : Nat} {A : Option Addr} {c : Nat} {bs : List UInt8} {t : TypeId} {cs : Array Value} (h : OwnB W base A c bs) (hp : Arr W g t cs) (ht : t ≠ 5) : blk A ≠ some g := by
  intro hb
  rcases h.2 with ⟨h1, _⟩ | ⟨g', cap, cur, hv, hg, hh, _⟩
  · injection h1 with h1 _ _
    subst h1
    simp [blk] at hb
  · injection hv with h1 _ _
    subst h1
    simp [blk] at hb
    subst hb
    unfold Arr at hp
    rw [hp] at hh
    simp at hh
    exact ht hh.2
theorem fraV_no8 (k s n : Int) (t : ByteArray) (A : Option Addr) (l c : Nat) : ∀ v ∈ fraV k s n t (.slice A l c), ∀ m, v ≠ .int .u8 m := by
  intro v hv m
  simp [fraV] at hv
  rcases hv with h | h | h | h | h <;> (subst h; intro e; cases e)
theorem fra_one (k s n : Int) (t : ByteArray) (A : Option Addr) (l c : Nat) : ∀ v ∈ fraV k s n t (.slice A l c), v.oneCell' = true := by
  intro v hv
  simp [fraV] at hv
  rcases hv with h | h | h | h | h <;> (subst h; rfl)

/-- where wire.Decode stands: the result's variable, the cursor's, the frame's, the cursor; the data -/
def DG (w W : World) (g2 gv g6 gc : Nat) (k s n : Int) (t : ByteArray) (A : Option Addr) (c : Nat) (d : List UInt8) (bs : List UInt8) (kk : Nat) (er : Int) : Prop :=
  Ext w W ∧ Arr W g2 65 zfra ∧ Arr W gv 165 #[.pointer (some ⟨gc, 0, none⟩)] ∧ Arr W g6 65 (fraV k s n t (.slice A d.length c)) ∧ Cur W gc bs kk er ∧
  (w.heap.size ≤ g2 ∧ w.heap.size ≤ gv ∧ w.heap.size ≤ g6 ∧ w.heap.size ≤ gc) ∧ (g2 ≠ gv ∧ g2 ≠ g6 ∧ g2 ≠ gc ∧ gv ≠ g6 ∧ gv ≠ gc ∧ g6 ≠ gc) ∧ OwnB W w.heap.size A c d
section dg
variable {w W W1 : World} {g2 gv g6 gc : Nat} {k s n k' s' n' : Int} {t t' : ByteArray} {A A' : Option Addr} {c c' : Nat} {d d' : List UInt8} {bs : List UInt8} {kk kk' : Nat} {er er' : Int}
theorem Cur.arr {W : World} {g : Nat} {bs : List UInt8} {k : Nat} {er : Int} (h : Cur W g bs k er) : ∃ cs, Arr W g 187 cs := let ⟨_, _, h1, _⟩ := h; ⟨_, h1⟩
theorem DG.cur (h : DG w W g2 gv g6 gc k s n t A c d bs kk er) (hg : W.grownBy W1 (some gc)) (hc : Cur W1 gc bs kk' er') : DG w W1 g2 gv g6 gc k s n t A c d bs kk' er' := by
  obtain ⟨h1, h2, h3, h4, h5, h6, h7, h8⟩ := h
  obtain ⟨cs, hcs⟩ := h5.arr
  exact ⟨h1.grown hg (fun k hk => by injection hk with hk; omega), h2.grown hg (by intro e; injection e with e; omega), h3.grown hg (by intro e; injection e with e; omega), h4.grown hg (by intro e; injection e with e; omega), hc, h6, h7, h8.keep hg (.inr (own_ne_arr h8 hcs (by decide)))⟩
theorem DG.put (h : DG w W g2 gv g6 gc k s n t A c d bs kk er) (hg : W.grownBy W1 (some g6)) (ha : Arr W1 g6 65 (fraV k' s' n' t' (.slice A d.length c))) : DG w W1 g2 gv g6 gc k' s' n' t' A c d bs kk er := by
  obtain ⟨h1, h2, h3, h4, h5, h6, h7, h8⟩ := h
  exact ⟨h1.grown hg (fun k hk => by injection hk with hk; omega), h2.grown hg (by intro e; injection e with e; omega), h3.grown hg (by intro e; injection e with e; omega), ha, h5.keep hg (by omega) h4 (fraV_no8 _ _ _ _ _ _ _), h6, h7, h8.keep hg (.inr (own_ne_arr h8 h4 (by decide)))⟩
theorem DG.data (h : DG w W g2 gv g6 gc k s n t A c d bs kk er) (hg : W.grownBy W1 (some g6)) (ho : OwnB W w.heap.size A' c' d') (ha : Arr W1 g6 65 (fraV k s n t (.slice A' d'.length c'))) : DG w W1 g2 gv g6 gc k s n t A' c' d' bs kk er := by
  obtain ⟨h1, h2, h3, h4, h5, h6, h7, h8⟩ := h
  exact ⟨h1.grown hg (fun k hk => by injection hk with hk; omega), h2.grown hg (by intro e; injection e with e; omega), h3.grown hg (by intro e; injection e with e; omega), ha, h5.keep hg (by omega) h4 (fraV_no8 _ _ _ _ _ _ _), h6, h7, ho.keep hg (.inr (own_ne_arr ho h4 (by decide)))⟩
theorem DG.ext (h : DG w W g2 gv g6 gc k s n t A c d bs kk er) (e : Ext W W1) : DG w W1 g2 gv g6 gc k s n t A c d bs kk er :=
  ⟨h.1.trans e, h.2.1.ext e, h.2.2.1.ext e, h.2.2.2.1.ext e, h.2.2.2.2.1.ext e, h.2.2.2.2.2.1, h.2.2.2.2.2.2.1, h.2.2.2.2.2.2.2.ext e⟩
end dg

theorem size_i64 : (Try.prog.info? 3).map (·.size) = some 1 := by kernel_rfl
theorem size_str : (Try.prog.info? 9).map (·.size) = some 1 := by kernel_rfl
def fldC (bs : List UInt8) (has : Bool) (width : Int) (k : Nat) (er : Int) : Nat × Nat × Int := if has = true then numC bs k er width else (0, k, er)
def txtC (bs : List UInt8) (has : Bool) (k : Nat) (er : Int) : List UInt8 × Nat × Int := if has = true then textC bs k er 1 255 else ([], k, er)
def datC (bs : List UInt8) (has : Bool) (k : Nat) (er : Int) : List UInt8 × Nat × Int := if has = true then bytesC bs k er ((bs.length - k : Nat) : Int) else ([], k, er)

set_option maxHeartbeats 1000000 in
theorem wdec2_calls (w W : World) (g2 gv g6 gc : Nat) (k s n : Int) (t : ByteArray) (A : Option Addr) (c : Nat) (d : List UInt8) (bs : List UInt8) (kk : Nat) (er : Int) (h : DG w W g2 gv g6 gc k s n t A c d bs kk er) (hl : bs.length ≤ 1000000) :
    Calls Try.prog 145 #[.pointer (some ⟨gv, 0, none⟩), .pointer (some ⟨g6, 0, none⟩)] W fun e W' => e = .returned (.tuple #[]) ∧ DG w W' g2 gv g6 gc k ((numC bs kk er 1).1 : Int) n t A c d bs (numC bs kk er 1).2.1 (numC bs kk er 1).2.2 := by
  have HD := Lib.hid h
  have dv := h.2.2.1.cell 0
  simp at dv
  clear h
  have hx := num1_lt bs kk er
  have hw : wrap64 ((numC bs kk er 1).1 : Int) = ((numC bs kk er 1).1 : Int) := by unfold wrap64; omega
  go_enter Try.func145, Try.ntmps145
  go_wp2_with fail
  refine (cnumber_calls gc bs kk er 1 _ HD.out.2.2.2.2.1 hl).mono ?_
  rintro e W1 ⟨rfl, g1, c1⟩
  have D1 := Lib.hid (HD.out.cur g1 c1)
  clear g1 c1 dv HD
  go_wp2_with (((with_reducible show wpList _ _ _ ({ dst := none, op := Op.store 3 _ _, type := _, pos := _, after := _, guard := _ } :: _) _ _); refine stI _ rfl 3 65 _ _ rfl g6 1 _ (.int .i64 ((numC bs kk er 1).1 : Int)) rfl rfl D1.out.2.2.2.1 size_i64 rfl rfl (by simp [fraV]) ?_; intro W2 hs1 h1 g1; have D2 := Lib.hid (D1.out.put g1 (show Arr W2 g6 65 (fraV k ((numC bs kk er 1).1 : Int) n t (.slice A d.length c)) from h1)); clear h1 g1 hs1))
  go_end0
  exact ⟨rfl, D2.out⟩

set_option maxHeartbeats 1000000 in
theorem wdec3_calls (w W : World) (g2 gv g6 gc : Nat) (k s n : Int) (t : ByteArray) (A : Option Addr) (c : Nat) (d : List UInt8) (bs : List UInt8) (kk : Nat) (er : Int) (h : DG w W g2 gv g6 gc k s n t A c d bs kk er) (hl : bs.length ≤ 1000000) :
    Calls Try.prog 146 #[.pointer (some ⟨gv, 0, none⟩), .pointer (some ⟨g6, 0, none⟩)] W fun e W' => e = .returned (.tuple #[]) ∧ DG w W' g2 gv g6 gc k s ((numC bs kk er 2).1 : Int) t A c d bs (numC bs kk er 2).2.1 (numC bs kk er 2).2.2 := by
  have HD := Lib.hid h
  have dv := h.2.2.1.cell 0
  simp at dv
  clear h
  have hx := num2_lt bs kk er
  have hw : wrap64 ((numC bs kk er 2).1 : Int) = ((numC bs kk er 2).1 : Int) := by unfold wrap64; omega
  go_enter Try.func146, Try.ntmps146
  go_wp2_with fail
  refine (cnumber_calls gc bs kk er 2 _ HD.out.2.2.2.2.1 hl).mono ?_
  rintro e W1 ⟨rfl, g1, c1⟩
  have D1 := Lib.hid (HD.out.cur g1 c1)
  clear g1 c1 dv HD
  go_wp2_with (((with_reducible show wpList _ _ _ ({ dst := none, op := Op.store 3 _ _, type := _, pos := _, after := _, guard := _ } :: _) _ _); refine stI _ rfl 3 65 _ _ rfl g6 2 _ (.int .i64 ((numC bs kk er 2).1 : Int)) rfl rfl D1.out.2.2.2.1 size_i64 rfl rfl (by simp [fraV]) ?_; intro W2 hs1 h1 g1; have D2 := Lib.hid (D1.out.put g1 (show Arr W2 g6 65 (fraV k s ((numC bs kk er 2).1 : Int) t (.slice A d.length c)) from h1)); clear h1 g1 hs1))
  go_end0
  exact ⟨rfl, D2.out⟩

set_option maxHeartbeats 1000000 in
theorem wdec4_calls (w W : World) (g2 gv g6 gc : Nat) (k s n : Int) (t : ByteArray) (A : Option Addr) (c : Nat) (d : List UInt8) (bs : List UInt8) (kk : Nat) (er : Int) (h : DG w W g2 gv g6 gc k s n t A c d bs kk er) (hl : bs.length ≤ 1000000) :
    Calls Try.prog 147 #[.pointer (some ⟨gv, 0, none⟩), .pointer (some ⟨g6, 0, none⟩)] W fun e W' => e = .returned (.tuple #[]) ∧ DG w W' g2 gv g6 gc k s n ⟨(textC bs kk er 1 255).1.toArray⟩ A c d bs (textC bs kk er 1 255).2.1 (textC bs kk er 1 255).2.2 := by
  have HD := Lib.hid h
  have dv := h.2.2.1.cell 0
  simp at dv
  clear h

  go_enter Try.func147, Try.ntmps147
  go_wp2_with fail
  refine (ctext_calls gc bs kk er 1 255 _ HD.out.2.2.2.2.1 hl (by decide)).mono ?_
  rintro e W1 ⟨rfl, g1, c1⟩
  have D1 := Lib.hid (HD.out.cur g1 c1)
  clear g1 c1 dv HD
  go_wp2_with (((with_reducible show wpList _ _ _ ({ dst := none, op := Op.store 9 _ _, type := _, pos := _, after := _, guard := _ } :: _) _ _); refine stI _ rfl 9 65 _ _ rfl g6 3 _ (.string ⟨(textC bs kk er 1 255).1.toArray⟩) rfl rfl D1.out.2.2.2.1 size_str rfl rfl (by simp [fraV]) ?_; intro W2 hs1 h1 g1; have D2 := Lib.hid (D1.out.put g1 (show Arr W2 g6 65 (fraV k s n ⟨(textC bs kk er 1 255).1.toArray⟩ (.slice A d.length c)) from h1)); clear h1 g1 hs1))
  go_end0
  exact ⟨rfl, D2.out⟩

theorem wdec_s (has : Bool) (w W : World) (g2 gv g6 gc : Nat) (k n : Int) (t : ByteArray) (A : Option Addr) (c : Nat) (d : List UInt8) (bs : List UInt8) (kk : Nat) (er : Int) (h : DG w W g2 gv g6 gc k 0 n t A c d bs kk er) (hl : bs.length ≤ 1000000) :
    Calls Try.prog 144 #[.bool has, .func (.func 145) #[] #[.pointer (some ⟨gv, 0, none⟩), .pointer (some ⟨g6, 0, none⟩)]] W fun e W' => e = .returned (.tuple #[]) ∧ DG w W' g2 gv g6 gc k ((fldC bs has 1 kk er).1 : Int) n t A c d bs (fldC bs has 1 kk er).2.1 (fldC bs has 1 kk er).2.2 := by
  have HD := Lib.hid h
  clear h
  cases has
  · go_enter Try.func144, Try.ntmps144
    go_wp2_with fail
    go_end0
    exact ⟨rfl, HD.out⟩
  go_enter Try.func144, Try.ntmps144
  go_wp2_with fail
  refine (wdec2_calls w W g2 gv g6 gc _ _ _ _ _ _ _ bs kk er HD.out hl).mono ?_
  rintro e W1 ⟨rfl, d1⟩
  have D1 := Lib.hid d1
  clear d1
  go_wp2_with fail
  go_end0
  exact ⟨rfl, D1.out⟩

theorem wdec_n (has : Bool) (w W : World) (g2 gv g6 gc : Nat) (k s : Int) (t : ByteArray) (A : Option Addr) (c : Nat) (d : List UInt8) (bs : List UInt8) (kk : Nat) (er : Int) (h : DG w W g2 gv g6 gc k s 0 t A c d bs kk er) (hl : bs.length ≤ 1000000) :
    Calls Try.prog 144 #[.bool has, .func (.func 146) #[] #[.pointer (some ⟨gv, 0, none⟩), .pointer (some ⟨g6, 0, none⟩)]] W fun e W' => e = .returned (.tuple #[]) ∧ DG w W' g2 gv g6 gc k s ((fldC bs has 2 kk er).1 : Int) t A c d bs (fldC bs has 2 kk er).2.1 (fldC bs has 2 kk er).2.2 := by
  have HD := Lib.hid h
  clear h
  cases has
  · go_enter Try.func144, Try.ntmps144
    go_wp2_with fail
    go_end0
    exact ⟨rfl, HD.out⟩
  go_enter Try.func144, Try.ntmps144
  go_wp2_with fail
  refine (wdec3_calls w W g2 gv g6 gc _ _ _ _ _ _ _ bs kk er HD.out hl).mono ?_
  rintro e W1 ⟨rfl, d1⟩
  have D1 := Lib.hid d1
  clear d1
  go_wp2_with fail
  go_end0
  exact ⟨rfl, D1.out⟩

theorem wdec_t (has : Bool) (w W : World) (g2 gv g6 gc : Nat) (k s n : Int) (A : Option Addr) (c : Nat) (d : List UInt8) (bs : List UInt8) (kk : Nat) (er : Int) (h : DG w W g2 gv g6 gc k s n ByteArray.empty A c d bs kk er) (hl : bs.length ≤ 1000000) :
    Calls Try.prog 144 #[.bool has, .func (.func 147) #[] #[.pointer (some ⟨gv, 0, none⟩), .pointer (some ⟨g6, 0, none⟩)]] W fun e W' => e = .returned (.tuple #[]) ∧ DG w W' g2 gv g6 gc k s n ⟨(txtC bs has kk er).1.toArray⟩ A c d bs (txtC bs has kk er).2.1 (txtC bs has kk er).2.2 := by
  have HD := Lib.hid h
  clear h
  cases has
  · go_enter Try.func144, Try.ntmps144
    go_wp2_with fail
    go_end0
    exact ⟨rfl, HD.out⟩
  go_enter Try.func144, Try.ntmps144
  go_wp2_with fail
  refine (wdec4_calls w W g2 gv g6 gc _ _ _ _ _ _ _ bs kk er HD.out hl).mono ?_
  rintro e W1 ⟨rfl, d1⟩
  have D1 := Lib.hid d1
  clear d1
  go_wp2_with fail
  go_end0
  exact ⟨rfl, D1.out⟩

end Go.Proofs.Ytlgngnkaiidbeaa
