/- feed.frames$1: the frames out of bytes, as an iterator. -/
import Derived.Test.YtlgngnkaiidbeaaPlainFeed3
import Derived.Test.YtlgngnkaiidbeaaRangeZ
import Derived.Test.YtlgngnkaiidbeaaWDec3
import Derived.Shelf.Abstract
import Derived.Shelf.RegionOpen
import Derived.OwnWalkIn
import Derived.TacticsInMore
import Derived.LoopNIn
import Derived.LoopIn
import Derived.Maps.AppendAt
import Derived.Maps.OwnIn
set_option maxRecDepth 100000
set_option linter.unusedVariables false
set_option linter.unusedSimpArgs false
namespace Go.Proofs.Ytlgngnkaiidbeaa
open Go.RowKit Go.Shelf
attribute [local go_sem] Oper.semAt_some

theorem cell_putZ {W : World} {l : Nat} {o o' : Obj} {p : Addr} {u : Value} (h : W.heap[l]? = some o) (ho : o.isCells = false) (hc : W.cell? p = some u) : (W.putObj l o').cell? p = some u := by
  have hne : p.block ≠ l := by
    intro e
    unfold World.cell? at hc
    rw [e, h] at hc
    cases o <;> simp [Obj.isCells] at ho hc
  rw [World.cell?_of_block (w := W) (World.putObj_heap_other hne)]
  exact hc
theorem Arr.putZ {W : World} {g : Nat} {t : TypeId} {cs : Array Value} {l : Nat} {o o' : Obj} (h : Arr W g t cs) (ho : W.heap[l]? = some o) (hc : o.isCells = false) : Arr (W.putObj l o') g t cs := by
  have hne : g ≠ l := by
    intro e
    subst e
    unfold Arr at h
    rw [h] at ho
    cases ho
    simp [Obj.isCells] at hc
  unfold Arr
  rw [World.putObj_heap_other hne]
  exact h
theorem OwnV.putZ {W : World} {base : Nat} {e : TypeId} {size : Nat} {A : Option Addr} {n c : Nat} {xs : List Value} {l : Nat} {o o' : Obj} (hw : OwnV W base e size A n c xs) (h : W.heap[l]? = some o) (ho : o.isCells = false) : OwnV (W.putObj l o') base e size A n c xs := by
  refine hw.same (fun k hk => World.putObj_heap_other ?_)
  rintro rfl
  rcases hw.2 with ⟨hv, _⟩ | ⟨g, cap, cur, hv, hb, hh, r⟩
  · injection hv with hA; subst hA; simp [blk] at hk
  · injection hv with hA; subst hA
    simp [blk] at hk
    subst hk
    rw [hh] at h
    cases h
    simp [Obj.isCells] at ho
theorem OwnB.putZ {W : World} {base c : Nat} {A : Option Addr} {bs : List UInt8} {l : Nat} {o o' : Obj} (hw : OwnB W base A c bs) (h : W.heap[l]? = some o) (ho : o.isCells = false) : OwnB (W.putObj l o') base A c bs := OwnV.putZ hw h ho
theorem FK.book (b n0 gb gp gf : Nat) (A : World) : Book b (FK n0 gb gp gf A) := fun W l o o' _ h2 h3 h => ⟨fun k t cs hk ha => (h.1 k t cs hk ha).putZ h2 h3, fun p u hp hc => cell_putZ h2 h3 (h.2 p u hp hc)⟩
theorem FR.book (b : Nat) (all : List UInt8) (pre : List Fx) (x : Fx) (W0 : World) : Book b (FR all pre x W0) := fun W l o o' _ h2 h3 h => ⟨h.1, h.2.1, h.2.2.putZ h2 h3⟩
theorem FS.book (b gf : Nat) (all : List UInt8) (xs : List Fx) : Book b (FS gf all xs) := fun W l o o' _ h2 h3 h => by
  obtain ⟨h1, v, e, ha, hr⟩ := h
  exact ⟨h1, v, e, ha.putZ h2 h3, hr⟩
def mB (gb : Nat) (W : World) : Nat := match W.cell? ⟨gb, 0, none⟩ with | some (.slice _ n _) => n | _ => 0
theorem mB_eq {gb : Nat} {W : World} {t : TypeId} {A : Option Addr} {n c : Nat} (h : Arr W gb t #[.slice A n c]) : mB gb W = n := by
  unfold mB
  rw [h.cell_some (i := 0) (v := .slice A n c) rfl]
/-- bytes that lie below n0 -/
def RdL0 (n0 : Nat) (W : World) (A : Option Addr) (b : List UInt8) : Prop := RdB W A b ∧ ∀ k, blk A = some k → k < n0 ∨ b = []
theorem RdL0.kept {n0 : Nat} {W W1 : World} {A : Option Addr} {b : List UInt8} (h : RdL0 n0 W A b) (hk : ∀ p u, p.block < n0 → W.cell? p = some u → W1.cell? p = some u) : RdL0 n0 W1 A b := by
  refine ⟨fun j u hj => ?_, h.2⟩
  obtain ⟨ad, ha, hc⟩ := h.1 j u hj
  rcases h.2 _ (show blk A = some ad.block by rw [ha]; rfl) with h1 | h1
  · exact ⟨ad, ha, hk _ _ (by rw [block_add]; exact h1) hc⟩
  · subst h1; simp at hj
theorem blk_cut {A : Option Addr} {c k : Nat} : blk (if c = k then A else A.map (·.add k)) = blk A := by
  split
  · rfl
  · cases A with
    | none => rfl
    | some a => show some (a.add k).block = some a.block; rw [block_add]
theorem RdL0.cut {n0 : Nat} {W : World} {A : Option Addr} {b : List UInt8} (h : RdL0 n0 W A b) (k c : Nat) (hc : b.length ≤ c) : RdL0 n0 W (if c = k then A else A.map (·.add k)) (b.drop k) := by
  refine ⟨h.1.cut k c hc, fun j hj => ?_⟩
  rw [blk_cut] at hj
  rcases h.2 j hj with h1 | h1
  · exact .inl h1
  · subst h1; exact .inr (by simp)
set_option maxHeartbeats 8000000 in
theorem frames1_seq (n gb gp gf n0 : Nat) (A : Option Addr) (c : Nat) (all r : List UInt8) (Ar : Option Addr) (cr : Nat) (hl : all.length ≤ 100000) (hcap : all.length ≤ c) (hcm : c ≤ 9223372036854775807) (W : World)
    (hB : Arr W gb 27 #[.slice A all.length c]) (hP : Arr W gp 66 #[.pointer (some ⟨gf, 0, none⟩)]) (hF : Arr W gf 129 #[.slice Ar r.length cr, .int .i64 0]) (hb : RdL0 n0 W A all) (hgb : n0 ≤ gb) (hgp : gp ≠ gb ∧ gp ≠ gf ∧ gb ≠ gf) (hgf : gf < n0) :
    SeqY n Try.prog 116 #[.pointer (some ⟨gb, 0, none⟩), .pointer (some ⟨gp, 0, none⟩)] Fx.enc (MvF gb gf) (FR all) (FK n0 gb gp gf) (FS gf all) W := fun l J hJ hY h0 => by
  refine callsIn_of_wp Try.func116 rfl trivial ?_ rfl
  simp only [Try.ntmps116, List.size_toArray, List.length_cons, List.length_nil, Nat.reduceAdd, Nat.reduceSub, Array.replicate_succ, Array.replicate_zero, List.push_toArray, List.append_toArray, List.nil_append, List.cons_append]
  have HB0 := Lib.hid hB
  have HP0 := Lib.hid hP
  have HF0 := Lib.hid hF
  have Hb := Lib.hid hb
  have HY := Lib.hid hY
  have HJ := Lib.hid hJ
  have HGS : Hid (n0 ≤ gb ∧ gp ≠ gb ∧ gp ≠ gf ∧ gb ≠ gf ∧ gf < n0) := ⟨hgb, hgp.1, hgp.2.1, hgp.2.2, hgf⟩
  clear hB hP hF hb hJ hY hgb hgp hgf
  gi_wp2
  gi_loopw [4] (fun a wr => ∃ pre : List Fx, ∃ A' c', PuS all pre ∧ J pre wr ∧ Arr wr gb 27 #[.slice A' (all.drop (usedS pre)).length c'] ∧ Arr wr gp 66 #[.pointer (some ⟨gf, 0, none⟩)] ∧ Arr wr gf 129 #[.slice Ar r.length cr, .int .i64 0] ∧ RdL0 n0 wr A' (all.drop (usedS pre)) ∧ (all.drop (usedS pre)).length ≤ c' ∧ c' ≤ 9223372036854775807) (fun a wr => mB gb wr)
  case atStart => exact ⟨[], A, c, PuS.nil all, h0, HB0.out, HP0.out, HF0.out, by simpa [usedS] using Hb.out, by simpa [usedS] using hcap, hcm⟩
  case round =>
    obtain ⟨pre, A', c', hpu, hj, hB, hP, hF, hrd, hc1, hc2⟩ := hrel
    have HPU := Lib.hid hpu
    have HJp := Lib.hid hj
    have HBw := Lib.hid hB
    have HPw := Lib.hid hP
    have HFw := Lib.hid hF
    have HRD := Lib.hid hrd
    have hbl : (all.drop (usedS pre)).length ≤ 100000 := by rw [List.length_drop]; omega
    obtain ⟨b, hbb⟩ : ∃ b, b = all.drop (usedS pre) := ⟨_, rfl⟩
    have HBB := Lib.hid hbb
    rw [← hbb] at hB hc1 hbl
    have HMB := Lib.hid (mB_eq hB)
    have c0 := hB.cell_some (i := 0) (v := .slice A' b.length c') rfl
    have p0 := hP.cell_some (i := 0) (v := .pointer (some ⟨gf, 0, none⟩)) rfl
    clear hpu hj hP hF hrd hB hbb
    by_cases h2 : b.length < 2
    · have k2 : ¬ (2 : Int) ≤ (b.length : Int) := by omega
      have HS : Hid (FS gf all pre wr) := ⟨HPU.out, _, _, HFw.out, .inl ⟨by rw [← HBB.out]; exact fs_short h2, rfl⟩⟩
      gi_wp2_with fail
      go_end0
      exact ⟨⟨_, rfl⟩, pre, HS.out, HJp.out⟩
    · have k2 : (2 : Int) ≤ (b.length : Int) := by omega
      have h2' : 2 ≤ b.length := by omega
      have k3 : 2 ≤ c' := by omega
      have HCU : Hid (∀ W, Ext wr W → Calls Try.prog 117 #[.slice A' 2 c'] W fun e w' => ∃ g, e = .returned (.pointer (some ⟨g, 0, none⟩)) ∧ W.heap.size ≤ g ∧ Cur w' g (b.take 2) 0 0 ∧ Ext W w') := fun W e => by
        have h := newCursor_calls A' c' (b.take 2) W (RdB.ext (by rw [HBB.out]; exact (HRD.out.1).take 2) e) (by rw [List.length_take]; omega)
        rw [List.length_take, Nat.min_eq_left h2'] at h
        exact h
      have HNU : Hid (∀ (W : World) (g : Nat), Cur W g (b.take 2) 0 0 → Calls Try.prog 118 #[.pointer (some ⟨g, 0, none⟩), .int .i64 2] W (RetCV W g (b.take 2) (.int .u64 (hdN b)) (takeC (b.take 2) 0 0 2).2.1 (takeC (b.take 2) 0 0 2).2.2)) := fun W g h => by
        have h3 := number2 g (b.take 2) 0 0 W h (by rw [List.length_take]; omega)
        rw [take2_leN h2'] at h3
        exact h3
      have hn9 := hdN_lt b
      have HST := Lib.hid (fun h => @fs_form b h2' h)
      have HSW := Lib.hid (fun h1 h3 => @fs_wait b h2' h1 h3)
      have HSB := Lib.hid (fun h1 h3 h4 => @fs_bad b h2' h1 h3 h4)
      have HSO := Lib.hid (fun h1 h3 h4 => @fs_one b h2' h1 h3 h4)
      generalize hdN b = N at *
      gi_wp2_with fail
      refine ⟨trivial, fun hd => by simp [Fence.wide] at hd, (callsIn_wide.2 (HCU.out _ (Ext.refl _))).mono ?_⟩
      rintro e w1 ⟨gc, rfl, hgc, hcu, e1⟩
      have E1 := Lib.hid e1
      have HNU1 := Lib.hid (HNU.out w1 gc hcu)
      have GC := Lib.hid hgc
      clear hgc hcu e1 HCU HNU
      gi_wp2_with fail
      refine ⟨trivial, fun hd => by simp [Fence.wide] at hd, (callsIn_wide.2 HNU1.out).mono ?_⟩
      rintro e w2 ⟨rfl, g2, _⟩
      have E2 := Lib.hid (E1.out.grown g2 (fun k hk => by injection hk with hk; have := GC.out; omega))
      have HZ2 : Hid (wr.heap.size ≤ w2.heap.size) := E2.out.size
      clear g2 E1 HNU1 GC
      have hF2 := HFw.out.ext E2.out
      have hP2 := HPw.out.ext E2.out
      have hB2 : Arr w2 gb 27 #[.slice A' b.length c'] := by have := HBw.out.ext E2.out; rwa [← HBB.out] at this
      have f0 := hF2.cell_some (i := 0) (v := .slice Ar r.length cr) rfl
      have f1 := hF2.cell_some (i := 1) (v := .int .i64 0) rfl
      have f1z := hF2.frozen 1
      have q0 := hP2.cell_some (i := 0) (v := .pointer (some ⟨gf, 0, none⟩)) rfl
      have d0 := hB2.cell_some (i := 0) (v := .slice A' b.length c') rfl
      have d0z := hB2.frozen 0
      have HF2 := Lib.hid hF2
      have HP2 := Lib.hid hP2
      have HB2 := Lib.hid hB2
      have HB2lt := Lib.hid (show gb < w2.heap.size from hB2.lt)
      clear hF2 hP2 hB2 c0 p0
      by_cases hN : N = 0 ∨ 4096 < N
      · have HS : Hid (FS gf all pre (w2.setCell ⟨gf, 1, none⟩ (.int .i64 2))) := ⟨HPU.out, _, 2, by simpa using HF2.out.set 1 (.int .i64 2), .inr ⟨by decide, by rw [← HBB.out]; exact HST.out hN⟩⟩
        have HJ2 : Hid (J pre (w2.setCell ⟨gf, 1, none⟩ (.int .i64 2))) := HJ.out _ _ _ HJp.out ((Ext.mvf E2.out).trans (MvF.setc HF2.out (.inr rfl) _))
        by_cases hN0 : N = 0
        · subst hN0
          gi_wp2_with fail
          refine bodyPost_ret (results_none rfl _ _ _) rfl ?_
          exact ⟨⟨_, rfl⟩, pre, HS.out, HJ2.out⟩
        · have n0' : ((N : Int) == 0) = false := by simpa using hN0
          have n1' : (4096 : Int) < (N : Int) := by omega
          gi_wp2_with fail
          refine bodyPost_ret (results_none rfl _ _ _) rfl ?_
          exact ⟨⟨_, rfl⟩, pre, HS.out, HJ2.out⟩
      · have hN0 : N ≠ 0 := fun e => hN (.inl e)
        have n0' : ((N : Int) == 0) = false := by simpa using hN0
        have n1' : ¬ (4096 : Int) < (N : Int) := by omega
        have hNm : N ≤ 4096 := by omega
        by_cases hS : b.length < 2 + N
        · have s1 : (b.length : Int) < 2 + (N : Int) := by omega
          have HS : Hid (FS gf all pre w2) := ⟨HPU.out, _, _, HF2.out, .inl ⟨by rw [← HBB.out]; exact HSW.out hN hS, rfl⟩⟩
          have HJ2 : Hid (J pre w2) := HJ.out _ _ _ HJp.out (Ext.mvf E2.out)
          gi_wp2_with fail
          refine bodyPost_ret (results_none rfl _ _ _) rfl ?_
          exact ⟨⟨_, rfl⟩, pre, HS.out, HJ2.out⟩
        · have s1 : ¬ (b.length : Int) < 2 + (N : Int) := by omega
          have HDC : Hid (Calls Try.prog 119 #[.slice A' (2 + N) c'] w2 (RetF w2 (decW (b.take (2 + N))).1 (.int .i64 (decW (b.take (2 + N))).2))) := by
            have h := wdecode_calls A' c' (b.take (2 + N)) w2 (RdB.ext (by rw [HBB.out]; exact (HRD.out.1).take _) E2.out) (by rw [List.length_take]; omega)
            rw [List.length_take, Nat.min_eq_left (by omega)] at h
            exact h
          have HSB' := Lib.hid (HSB.out hN hS)
          have HSO' := Lib.hid (HSO.out hN hS)
          clear HSB HSO HST HSW
          generalize decW (b.take (2 + N)) = R at *
          obtain ⟨fr, er⟩ := R
          dsimp only at *
          gi_wp2_with fail
          refine ⟨trivial, fun hd => by simp [Fence.wide] at hd, (callsIn_wide.2 HDC.out).mono ?_⟩
          rintro e w3 ⟨A3, c3, rfl, o3, e3⟩
          have O3 := Lib.hid o3
          have E3 := Lib.hid (E2.out.trans e3)
          have HF3 := Lib.hid (HF2.out.ext e3)
          have HP3 := Lib.hid (HP2.out.ext e3)
          have HB3 := Lib.hid (HB2.out.ext e3)
          clear o3 e3 HF2 HP2 HB2 E2 HDC
          obtain ⟨fk, fs, fn', ft, fd⟩ := fr
          dsimp only at *
          obtain ⟨W4, hW4⟩ : ∃ W4, W4 = w3.alloc (.cells #[.int .i64 fk, .int .i64 fs, .int .i64 fn', .string ⟨ft.toArray⟩, .slice A3 fd.length c3] 65) := ⟨_, rfl⟩
          have e4 : Ext w3 W4 := by subst hW4; exact (Ext.refl _).alloc _
          have A4 : Hid (Arr W4 w3.heap.size 65 #[.int .i64 fk, .int .i64 fs, .int .i64 fn', .string ⟨ft.toArray⟩, .slice A3 fd.length c3]) := by subst hW4; exact Arr.new _ _ _
          have E4 := Lib.hid (E3.out.trans e4)
          have HF4 := Lib.hid (HF3.out.ext e4)
          have HP4 := Lib.hid (HP3.out.ext e4)
          have HB4 := Lib.hid (HB3.out.ext e4)
          have O4 := Lib.hid (O3.out.ext e4)
          have q0 := HP4.out.cell_some (i := 0) (v := .pointer (some ⟨gf, 0, none⟩)) rfl
          have d0 := HB4.out.cell_some (i := 0) (v := .slice A' b.length c') rfl
          have d0z := HB4.out.frozen 0
          have f1 := HF4.out.cell_some (i := 1) (v := .int .i64 0) rfl
          have f1z := HF4.out.frozen 1
          have b0 := A4.out.cell_some (i := 0) (v := .int .i64 fk) rfl
          have b1 := A4.out.cell_some (i := 1) (v := .int .i64 fs) rfl
          have b2 := A4.out.cell_some (i := 2) (v := .int .i64 fn') rfl
          have b3 := A4.out.cell_some (i := 3) (v := .string ⟨ft.toArray⟩) rfl
          have b4 := A4.out.cell_some (i := 4) (v := .slice A3 fd.length c3) rfl
          have HW4 := Lib.hid hW4
          have HLT := Lib.hid HB3.out.lt
          have HS4 : Hid (∀ er, er ≠ 0 → fstep dcP b = .bad er → FS gf all pre (W4.setCell ⟨gf, 1, none⟩ (.int .i64 er)) ∧ J pre (W4.setCell ⟨gf, 1, none⟩ (.int .i64 er))) := fun er hE hb => ⟨⟨HPU.out, _, er, by simpa using HF4.out.set 1 (.int .i64 er), .inr ⟨hE, by rw [← HBB.out]; exact hb⟩⟩, HJ.out _ _ _ HJp.out ((Ext.mvf E4.out).trans (MvF.setc HF4.out (.inr rfl) _))⟩
          rw [hW4] at q0 d0 d0z f1 f1z b0 b1 b2 b3 b4
          clear hW4 e4 HF3 HP3 HB3 O3
          by_cases hE : er = 0
          · subst hE
            have HZ : Hid (b.length - (2 + N) = (b.drop (2 + N)).length) := by show _ = _; rw [List.length_drop]
            have TAIL : Hid (∀ A5 c5, RdL0 n0 wr A5 (b.drop (2 + N)) → (b.drop (2 + N)).length ≤ c5 → c5 ≤ 9223372036854775807 → ∀ W5, W5 = W4.setCell ⟨gb, 0, none⟩ (.slice A5 (b.drop (2 + N)).length c5) →
                FR all pre (⟨fk, fs, fn', ⟨ft.toArray⟩, A3, c3, fd⟩, 2 + N) wr W5 ∧ MvF gb gf wr W5 ∧ ∀ W6, J (pre ++ [(⟨fk, fs, fn', ⟨ft.toArray⟩, A3, c3, fd⟩, 2 + N)]) W6 → FK n0 gb gp gf W5 W6 →
                  mB gb W6 < mB gb wr ∧ ∃ pre : List Fx, ∃ A' c', PuS all pre ∧ J pre W6 ∧ Arr W6 gb 27 #[.slice A' (all.drop (usedS pre)).length c'] ∧ Arr W6 gp 66 #[.pointer (some ⟨gf, 0, none⟩)] ∧ Arr W6 gf 129 #[.slice Ar r.length cr, .int .i64 0] ∧ RdL0 n0 W6 A' (all.drop (usedS pre)) ∧ (all.drop (usedS pre)).length ≤ c' ∧ c' ≤ 9223372036854775807) := by
              intro A5 c5 hrd hc5 hm5 W5 hW5
              obtain ⟨x, hx⟩ : ∃ x : Fx, x = (⟨fk, fs, fn', ⟨ft.toArray⟩, A3, c3, fd⟩, 2 + N) := ⟨_, rfl⟩
              have hst : fstep dcP (all.drop (usedS pre)) = .one x.1.pl x.2 := by rw [← HBB.out, hx]; exact HSO'.out rfl
              have hgb : gb < w3.heap.size := HLT.out
              rw [← hx]
              refine ⟨⟨HPU.out, hst, ?_⟩, ?_, fun W6 hJ6 hK6 => ?_⟩
              · rw [hx]
                refine OwnB.same (w := W4) (O4.out.lower HZ2.out) (fun k hk => ?_)
                have := (O4.out.base_ k hk).1
                have h9 := HB2lt.out
                rw [hW5]
                exact Below.heap_setCell _ _ _ _ (by simp; omega)
              · rw [hW5]; exact (Ext.mvf E4.out).trans (MvF.setc HB4.out (.inl rfl) _)
              · obtain ⟨s1, s2, s3⟩ := HPU.out.step x hst
                have hdr : all.drop (usedS (pre ++ [x])) = b.drop (2 + N) := by rw [s2, HBB.out, List.drop_drop, hx]
                have a1 : Arr W6 gb 27 #[.slice A5 (b.drop (2 + N)).length c5] := hK6.1 _ _ _ (.inl rfl) (by rw [hW5]; simpa using HB4.out.set 0 (.slice A5 (b.drop (2 + N)).length c5))
                have a2 := hK6.1 _ _ _ (.inr (.inl rfl)) (by rw [hW5]; exact HP4.out.other (h := gb) HGS.out.2.1 0 (.slice A5 (b.drop (2 + N)).length c5))
                have a3 := hK6.1 _ _ _ (.inr (.inr rfl)) (by rw [hW5]; exact HF4.out.other (h := gb) (fun e => HGS.out.2.2.2.1 e.symm) 0 (.slice A5 (b.drop (2 + N)).length c5))
                refine ⟨?_, pre ++ [x], A5, c5, s1, hJ6, ?_, a2, a3, ?_, ?_, hm5⟩
                · rw [mB_eq a1, HMB.out, List.length_drop]; omega
                · rw [hdr]; exact a1
                · rw [hdr]
                  refine hrd.kept (fun p u hp hc => hK6.2 p u hp ?_)
                  have h9 := HGS.out.1
                  rw [hW5, World.cell?_of_block (w := W4) (Below.heap_setCell _ _ _ _ (by simp; omega))]
                  exact E4.out.cell hc
                · rw [hdr]; exact hc5
            obtain ⟨ad, hA⟩ : ∃ ad, A' = some ad := by
              have h := HRD.out.1
              rw [← HBB.out] at h
              obtain ⟨ad, ha, _⟩ := h.at_ (k := 0) (by omega)
              exact ⟨ad, ha⟩
            subst hA
            have HRC : Hid (RdL0 n0 wr (if c' = 2 + N then some ad else (some ad).map (·.add (2 + N))) (b.drop (2 + N))) := by
              have h := HRD.out
              rw [← HBB.out] at h
              exact h.cut (2 + N) c' hc1
            by_cases hcc : c' = 2 + N
            · subst hcc
              have HZ0 : Hid ((b.drop (2 + N)).length = 0) := by show _ = _; rw [List.length_drop]; omega
              obtain ⟨V5, hV5⟩ : ∃ V5, V5 = Value.slice (some ad) 0 0 := ⟨_, rfl⟩
              simp only [fraA]
              have K5 := A4.out.other (h := gb) (by have := HLT.out; omega) 0 V5
              have k0 := K5.cell_some (i := 0) (v := .int .i64 fk) rfl
              have k1 := K5.cell_some (i := 1) (v := .int .i64 fs) rfl
              have k2 := K5.cell_some (i := 2) (v := .int .i64 fn') rfl
              have k3 := K5.cell_some (i := 3) (v := .string ⟨ft.toArray⟩) rfl
              have k4 := K5.cell_some (i := 4) (v := .slice A3 fd.length c3) rfl
              clear K5
              have HV5 := Lib.hid hV5
              rw [hV5, HW4.out] at k0 k1 k2 k3 k4
              clear hV5
              gi_wp2_with fail
              obtain ⟨t1, t2, t3⟩ := TAIL.out (some ad) 0 (by have h := HRC.out; simpa using h) (by rw [← HZ.out]; omega) (by omega) _ rfl
              have T2 := Lib.hid t2
              rw [HW4.out, HZ0.out] at t3
              have T3 := Lib.hid t3
              obtain ⟨fn, tmps, assign, bodyc, hy, hRd⟩ := HY.out pre _ wr _ HJp.out t2 t1
              simp only [Fx.enc, fmV, Int.natCast_add, Int.cast_ofNat_Int] at hy
              clear t1 t2 t3 TAIL
              rw [HW4.out, HZ0.out] at hy hRd
              rw [hy]
              gi_wp2_with fail
              refine ⟨fun hd => by simp [Fence.wide] at hd, hRd.mono ?_⟩
              rintro e w6 ⟨rfl, j2, k2⟩
              have T6 := Lib.hid (T3.out w6 j2 k2)
              clear j2 k2 k0 k1 k3 k4 hy hRd
              gi_wp2_with fail
              go_roundw
              case rel => exact T6.out.2
              case measure => exact T6.out.1
            · have hcc2 : ¬ (2 + N) = c' := fun e => hcc e.symm
              obtain ⟨V5, hV5⟩ : ∃ V5, V5 = Value.slice (some (ad.add (2 + N))) (b.length - (2 + N)) (c' - (2 + N)) := ⟨_, rfl⟩
              simp only [fraA]
              have K5 := A4.out.other (h := gb) (by have := HLT.out; omega) 0 V5
              have k0 := K5.cell_some (i := 0) (v := .int .i64 fk) rfl
              have k1 := K5.cell_some (i := 1) (v := .int .i64 fs) rfl
              have k2 := K5.cell_some (i := 2) (v := .int .i64 fn') rfl
              have k3 := K5.cell_some (i := 3) (v := .string ⟨ft.toArray⟩) rfl
              have k4 := K5.cell_some (i := 4) (v := .slice A3 fd.length c3) rfl
              clear K5
              have HV5 := Lib.hid hV5
              rw [hV5, HW4.out] at k0 k1 k2 k3 k4
              clear hV5
              gi_wp2_with fail
              obtain ⟨t1, t2, t3⟩ := TAIL.out (some (ad.add (2 + N))) (c' - (2 + N)) (by have h := HRC.out; rwa [if_neg hcc] at h) (by rw [← HZ.out]; omega) (by omega) _ rfl
              have T2 := Lib.hid t2
              rw [HW4.out, ← HZ.out] at t3
              have T3 := Lib.hid t3
              obtain ⟨fn, tmps, assign, bodyc, hy, hRd⟩ := HY.out pre _ wr _ HJp.out t2 t1
              simp only [Fx.enc, fmV, Int.natCast_add, Int.cast_ofNat_Int] at hy
              clear t1 t2 t3 TAIL
              rw [HW4.out, ← HZ.out] at hy hRd
              rw [hy]
              gi_wp2_with fail
              refine ⟨fun hd => by simp [Fence.wide] at hd, hRd.mono ?_⟩
              rintro e w6 ⟨rfl, j2, k2⟩
              have T6 := Lib.hid (T3.out w6 j2 k2)
              clear j2 k2 k0 k1 k3 k4 hy hRd
              gi_wp2_with fail
              go_roundw
              case rel => exact T6.out.2
              case measure => exact T6.out.1
          · have b1 : (er != 0) = true := by simpa using hE
            obtain ⟨hs, hj2⟩ := HS4.out er hE (HSB'.out hE)
            have HS := Lib.hid hs
            have HJ2 := Lib.hid hj2
            rw [HW4.out] at HS HJ2
            clear hs hj2
            simp only [fraA]
            gi_wp2_with fail
            refine bodyPost_ret (results_none rfl _ _ _) rfl ?_
            exact ⟨⟨_, rfl⟩, pre, HS.out, HJ2.out⟩
end Go.Proofs.Ytlgngnkaiidbeaa
