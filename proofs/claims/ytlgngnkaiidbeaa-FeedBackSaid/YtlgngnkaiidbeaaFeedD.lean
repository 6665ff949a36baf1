/- feed.Push. -/
import Derived.Test.YtlgngnkaiidbeaaFeedC
import Derived.Test.YtlgngnkaiidbeaaBClone
set_option maxRecDepth 100000
set_option linter.unusedVariables false
set_option linter.unusedSimpArgs false
namespace Go.Proofs.Ytlgngnkaiidbeaa
open Go.RowKit Go.Shelf
attribute [local go_sem] Oper.semAt_some

theorem sclone_calls (A : Option Addr) (c : Nat) (bs : List UInt8) (w : World) (hb : RdB w A bs) (hl : bs.length ≤ 1000000) (hn0 : A = none → c = 0) :
    Calls Try.prog 87 #[.slice A bs.length c] w (RetB w bs) := by
  have Hb := Lib.hid hb
  clear hb
  cases A with
  | none =>
    obtain rfl := hn0 rfl
    clear hn0
    have hn : bs = [] := by
      cases bs with
      | nil => rfl
      | cons y l => obtain ⟨ad, h, _⟩ := Hb.out 0 (bv y) (by simp); cases h
    subst hn
    have hnn := nil_nil
    go_enter Try.func87, Try.ntmps87
    go_wp2_with fail
    go_ret
    exact ⟨none, 0, rfl, OwnB.nil _ _, Ext.refl _⟩
  | some ad =>
    clear hn0
    have hns := nil_some
    go_enter Try.func87, Try.ntmps87
    go_wp2_with ((with_reducible show wpList _ _ _ ({ dst := some 7, op := Op.call { callee := Callee.builtin Builtin.append, args := _, argTypes := _ }, type := _, pos := _, after := _, guard := _ } :: _) _ _); refine appB _ rfl (.tmp 5) (.tmp 6) rfl w.heap.size (some ⟨w.heap.size, 0, none⟩) 0 [] rfl (some ad) c bs rfl ?_ (OwnB.empty w) (Hb.out.ext ((Ext.refl w).alloc _)) (by simp; omega) (by simp); intro A3 c3 w3 h3 g3 k3; have O3 := Lib.hid h3; have E3 := Lib.hid (((Ext.refl w).alloc (.cells #[] 5)).grown g3 (fun k hk => by simp [blk] at hk; omega)); clear h3 g3 k3)
    go_ret
    exact ⟨A3, c3, rfl, O3.out, E3.out⟩

theorem push_fin {w w1 W6 : World} {gf D : Nat} {all : List UInt8} {xs : List Fx} {A3 A5 : Option Addr} {c3 c5 : Nat} {e : Int} {rest : List UInt8}
    (hE : Ext w w1) (ov : OwnV W6 (w1.heap.size + 4) 65 5 A3 xs.length c3 (xs.flatMap (fun (x : Fx) => x.1.cs))) (hx : ∀ x ∈ xs, OwnB W6 (w1.heap.size + 4) x.1.A x.1.c x.1.d) (hk : KpF gf w1 W6)
    (hg : Arr W6 gf 129 #[.slice A5 rest.length c5, .int .i64 e]) (ho : OwnB W6 0 A5 c5 rest) (hfo : fo dcP all = (xs.map (fun x => x.1.pl), e, rest)) (hD : W6.heap[D]? = some (.deferred (some []))) (hb : w1.heap.size ≤ D) :
    ∃ A2 c2, ∃ ys : List Fm, Ending.returned (.tuple #[.slice A3 xs.length c3, .int .i64 e]) = .returned (.tuple #[.slice A2 ys.length c2, .int .i64 (fo dcP all).2.1]) ∧ FmO (W6.drew.putObj D (.deferred none)) w.heap.size A2 c2 ys ∧ ys.map Fm.pl = (fo dcP all).1 ∧
      FdW (W6.drew.putObj D (.deferred none)) gf (fo dcP all).2.2 (fo dcP all).2.1 ∧ KpF gf w (W6.drew.putObj D (.deferred none)) := by
  have e1 := (Ext.refl W6).drew
  have hs := hE.size
  rw [hfo]
  refine ⟨A3, c3, xs.map (·.1), by rw [List.length_map], ⟨?_, fun f hf => ?_⟩, by rw [List.map_map]; rfl, ⟨A5, c5, (hg.ext e1).putZ (e1.block hD) rfl, (ho.ext e1).putZ (e1.block hD) rfl⟩, (Ext.kpf hE).trans ((hk.trans (Ext.kpf e1)).putZ hb)⟩
  · rw [List.length_map, List.flatMap_map]
    exact ((ov.ext e1).putZ (e1.block hD) rfl).lower (by omega)
  · obtain ⟨x, hx', rfl⟩ := List.mem_map.1 hf
    exact (((hx x hx').ext e1).putZ (e1.block hD) rfl).lower (by omega)
theorem cells_lit {W : World} {t : TypeId} (cs : Array Value) : ∀ j u, cs.toList[j]? = some u → (W.alloc (.cells cs t)).cell? ((⟨W.heap.size, 0, none⟩ : Addr).add j) = some u := fun j u h => by
  obtain ⟨ad, ha, hc⟩ := (Arr.new W t cs).rd j u h
  cases ha
  exact hc
set_option maxHeartbeats 8000000 in
theorem fpush_calls (gf : Nat) (r b : List UInt8) (A : Option Addr) (c : Nat) (w : World) (h : FdW w gf r 0) (hb : RdB w A b) (hlr : r.length ≤ 50000) (hlb : b.length ≤ 50000) :
    Calls Try.prog 41 #[.pointer (some ⟨gf, 0, none⟩), .slice A b.length c] w fun e w' => ∃ A2 c2, ∃ xs : List Fm, e = .returned (.tuple #[.slice A2 xs.length c2, .int .i64 (fo dcP (r ++ b)).2.1]) ∧ FmO w' w.heap.size A2 c2 xs ∧ xs.map Fm.pl = (fo dcP (r ++ b)).1 ∧ FdW w' gf (fo dcP (r ++ b)).2.2 (fo dcP (r ++ b)).2.1 ∧ KpF gf w w' := by
  obtain ⟨Ar, cr, hF, hr⟩ := h
  obtain ⟨all, hall⟩ : ∃ all, all = r ++ b := ⟨_, rfl⟩
  rw [← hall]
  have hla : all.length ≤ 100000 := by rw [hall, List.length_append]; omega
  have HALL := Lib.hid hall
  clear hall
  refine (callsIn_wide (n := 5)).1 ?_
  refine callsIn_of_wp_marks Try.func41 rfl trivial ?_ rfl
  simp only [Try.ntmps41, List.size_toArray, List.length_cons, List.length_nil, Nat.reduceAdd, Nat.reduceSub, Array.replicate_succ, Array.replicate_zero, List.push_toArray, List.append_toArray, List.nil_append, List.cons_append]
  have f0 := hF.cell_some (i := 0) (v := .slice Ar r.length cr) rfl
  have f1 := hF.cell_some (i := 1) (v := .int .i64 0) rfl
  have HF := Lib.hid hF
  have HR := Lib.hid hr
  have HB := Lib.hid hb
  clear hF hr hb
  have HC : Hid (Calls Try.prog 85 #[.slice (some ⟨w.heap.size, 0, none⟩) 2 2] (w.alloc (.cells #[.slice Ar r.length cr, .slice A b.length c] 27)) (RetB (w.alloc (.cells #[.slice Ar r.length cr, .slice A b.length c] 27)) all)) := by
    rw [HALL.out]
    have e := (Ext.refl w).alloc (.cells #[.slice Ar r.length cr, .slice A b.length c] 27)
    have a := Arr.new w 27 #[.slice Ar r.length cr, .slice A b.length c]
    exact concat_calls w.heap.size Ar A cr c r b _ ⟨⟨a.cell 0, a.cell 1⟩, HR.out.rd.ext e, HB.out.ext e⟩ (by omega) (by omega)
  gi_wp2_with fail
  refine ⟨trivial, (callsIn_wide.2 HC.out).mono ?_⟩
  rintro e w1 ⟨A1, c1, rfl, o1, e1⟩
  have E1 := Lib.hid (((Ext.refl w).alloc _).trans e1)
  have O1 := Lib.hid o1
  clear o1 e1 f0 f1 HC
  gi_wp2_with fail
  refine ⟨trivial, (callsIn_wide.2 (frames_calls gf A1 _ c1 _)).mono ?_⟩
  rintro e w2 ⟨rfl, rfl⟩
  gi_wp2_with fail
  have HGF : Hid (gf < w1.heap.size) := by have := HF.out.lt; have := E1.out.size; show _ < _; omega
  obtain ⟨W0, hW0⟩ : ∃ W0, W0 = ((((w1.alloc (.cells #[.int .i64 0] 3)).alloc (.cells #[.slice none 0 0] 57)).alloc (.cells #[.pointer (some ⟨gf, 0, none⟩)] 66)).alloc (.cells #[.slice A1 all.length c1] 27)) := ⟨_, rfl⟩
  have hsz : W0.heap.size = w1.heap.size + 4 := by rw [hW0]; simp
  have a1 := Arr.new w1 3 #[.int .i64 0]
  have a2 := Arr.new (w1.alloc (.cells #[.int .i64 0] 3)) 57 #[.slice none 0 0]
  have a3 := Arr.new ((w1.alloc (.cells #[.int .i64 0] 3)).alloc (.cells #[.slice none 0 0] 57)) 66 #[.pointer (some ⟨gf, 0, none⟩)]
  have a4 := Arr.new (((w1.alloc (.cells #[.int .i64 0] 3)).alloc (.cells #[.slice none 0 0] 57)).alloc (.cells #[.pointer (some ⟨gf, 0, none⟩)] 66)) 27 #[.slice A1 all.length c1]
  simp only [World.size_alloc] at a2 a3 a4
  have b1 : Arr W0 w1.heap.size 3 #[.int .i64 0] := by rw [hW0]; exact ((a1.ext ((Ext.refl _).alloc _)).ext ((Ext.refl _).alloc _)).ext ((Ext.refl _).alloc _)
  have b2 : Arr W0 (w1.heap.size + 1) 57 #[.slice none 0 0] := by rw [hW0]; exact (a2.ext ((Ext.refl _).alloc _)).ext ((Ext.refl _).alloc _)
  have b3 : Arr W0 (w1.heap.size + 1 + 1) 66 #[.pointer (some ⟨gf, 0, none⟩)] := by rw [hW0]; exact a3.ext ((Ext.refl _).alloc _)
  have eW : Ext w1 W0 := by rw [hW0]; exact ((((Ext.refl w1).alloc _).alloc _).alloc _).alloc _
  rw [← hW0] at a4 ⊢
  have HB3 := Lib.hid b3
  have HB4 := Lib.hid a4
  have HV0 : Hid (FV w1 gf all [] W0) := ⟨none, 0, b2, b1, OwnV.nil _ _ _ _, fun x hx => by simp at hx, Ext.kpf eW, by omega⟩
  have HEW := Lib.hid eW
  have HSZ := Lib.hid hsz
  clear a1 a2 a3 a4 b1 b2 b3 eW hsz hW0
  have HRL : Hid (RdL0 w1.heap.size w1 A1 all) := ⟨O1.out.rd, fun k hk => .inl (O1.out.base_ k hk).2⟩
  refine wpIn_rangeZ (gf := 116) (lb := #[.pointer (some ⟨w1.heap.size + 1 + 1 + 1, 0, none⟩), .pointer (some ⟨w1.heap.size + 1 + 1, 0, none⟩)]) rfl (enters_of Try.func116 (by kernel_rfl) rfl) (encs := Fx.enc) (Mv := MvF (w1.heap.size + 3) gf) (R := FR all) (Kp := FK w1.heap.size (w1.heap.size + 3) (w1.heap.size + 2) gf) (S := FS gf all)
    (fun W hW => frames1_seq _ (w1.heap.size + 3) (w1.heap.size + 2) gf w1.heap.size A1 c1 all r Ar cr hla O1.out.cap O1.out.capmax W (HB4.out.ext hW) (HB3.out.ext hW) (((HF.out.ext E1.out).ext HEW.out).ext hW) (HRL.out.kept (fun p u _ hc => Ext.cell (Ext.trans HEW.out hW) hc)) (by omega) ⟨by omega, by have := HGF.out; omega, by have := HGF.out; omega⟩ HGF.out) (fun _ => rfl) (fun A B m k o _ h1 h2 => m.book k o h1 h2)
    (fun A B C h k => ⟨fun i t cs hi ha => k.1 i t cs hi (h.1 i t cs hi ha), fun p u hp hc => k.2 p u hp (h.2 p u hp hc)⟩) (fun A => FK.book _ _ _ _ _ _) (fun A => ⟨fun _ _ _ _ h => h, fun _ _ _ h => h⟩)
    (fun pre x A0 => FR.book _ _ _ _ _) (fun xs => FS.book _ _ _ _) (FV w1 gf all) (fun pre => FV.book _ (by have := HSZ.out; omega)) (fun pre A B h m => h.mvf m HGF.out) (fun W hW => HV0.out.ext hW HGF.out)
    (fun x a m W => a = { tmps := #[.pointer (some ⟨gf, 0, none⟩), .slice A b.length c, undef, undef, .slice none 0 0, .int .i64 0, .slice A1 all.length c1, .pointer (some ⟨w1.heap.size, 0, none⟩), .pointer (some ⟨w1.heap.size + 1, 0, none⟩), .pointer (some ⟨m, 0, none⟩), .int .i64 (x.2 : Int), .pointer (some ⟨gf, 0, none⟩), .bool false, .pointer (some ⟨gf, 0, none⟩), .pointer (some ⟨gf, 0, none⟩), .pointer (some ⟨gf, 1, none⟩), .int .i64 0, .bool false, undef, undef, undef, undef, .pointer (some ⟨gf, 0, none⟩), .pointer (some ⟨gf, 0, none⟩), .pointer (some ⟨gf, 0, none⟩), .slice Ar r.length cr, .slice A b.length c, .slice (some ⟨w.heap.size, 0, none⟩) 2 2, .slice A1 all.length c1, .pointer (some ⟨gf, 0, none⟩), .slice A1 all.length c1, .func (.func 116) #[] #[.pointer (some ⟨w1.heap.size + 1 + 1 + 1, 0, none⟩), .pointer (some ⟨w1.heap.size + 1 + 1, 0, none⟩)], .agg #[.int .i64 x.1.k, .int .i64 x.1.s, .int .i64 x.1.n, .string x.1.t, .slice x.1.A x.1.d.length x.1.c], .int .i64 (x.2 : Int), undef, undef, undef, undef, undef, undef, undef, undef, undef, undef, undef, undef, undef, undef, undef, undef, undef, undef, undef, undef, undef, undef, undef, undef, undef, undef, undef], defers := [] } ∧ Arr W m 65 #[.int .i64 x.1.k, .int .i64 x.1.s, .int .i64 x.1.n, .string x.1.t, .slice x.1.A x.1.d.length x.1.c]) (fun x a m => fun W l o o' _ h2 h3 h => ⟨h.1, h.2.putZ h2 h3⟩) (fun pre A B h e => h.ext e HGF.out) (fun pre x A0 A B h e => ⟨h.1, h.2.1, h.2.2.ext e⟩) (fun A B e => ⟨fun _ _ _ _ h => h.ext e, fun _ _ _ h => Ext.cell e h⟩) ?assign ?body ?done
  case assign =>
    intro l x W K hK
    dsimp only [Fx.enc, fmV]
    gi_wp2
    exact hK _ _ ((Ext.refl W).alloc _) ⟨rfl, Arr.new _ _ _⟩
  case body =>
    rintro l pre x W0 Wa W a h0 ha hsz hv hR ⟨rfl, hax⟩
    have HR5 := Lib.hid hR.2.2
    have HV := Lib.hid hv
    have HS0 : Hid (w1.heap.size + 4 ≤ W0.heap.size) := by obtain ⟨_, _, _, _, _, _, _, h⟩ := h0; exact h
    have hcnt := hR.1.count
    have hus : usedS pre + x.2 ≤ all.length := by
      obtain ⟨_, h2, _⟩ := fstep_one dcP hR.2.1
      rw [List.length_drop] at h2
      have := hR.1.le
      omega
    have u1 : IntKind.i64.wrap ((usedS pre : Int) + (x.2 : Int)) = ((usedS pre + x.2 : Nat) : Int) := by rw [IntWalk.i64_in _ (by omega)]; omega
    obtain ⟨A3, c3, a1, a2, ov, hx, hk, hs⟩ := hv
    obtain ⟨i0, hi, hz0, hz1, hz2⟩ := info_parts info_fm
    have HA1 := Lib.hid a1
    have c0 := a1.cell_some (i := 0) (v := .slice A3 pre.length c3) rfl
    have v0 := hax.cell_some (i := 0) (v := .int .i64 x.1.k) rfl
    have v1 := hax.cell_some (i := 1) (v := .int .i64 x.1.s) rfl
    have v2 := hax.cell_some (i := 2) (v := .int .i64 x.1.n) rfl
    have v3 := hax.cell_some (i := 3) (v := .string x.1.t) rfl
    have v4 := hax.cell_some (i := 4) (v := .slice x.1.A x.1.d.length x.1.c) rfl
    have eA := (Ext.refl W).alloc (.cells #[.int .i64 x.1.k, .int .i64 x.1.s, .int .i64 x.1.n, .string x.1.t, .slice x.1.A x.1.d.length x.1.c] 65)
    have HOV := Lib.hid (ov.ext eA)
    have HNb : Hid (∀ k, k < w1.heap.size + 4 → some k ≠ blk A3) := fun k hk e => by have := (ov.base_ k e.symm).1; omega
    have HA12 := Lib.hid (a1.ext eA)
    have HA22 := Lib.hid (a2.ext eA)
    have HS3 := Lib.hid hs
    clear h0 ha hR a1 a2 ov hx hs hax eA hk hsz
    gi_wp2_with (gi_at_builtin; refine wpListIn_append_own_at _ rfl _ _ 57 rfl (w1.heap.size + 4) 65 i0 (.agg #[.int .i64 0, .int .i64 0, .int .i64 0, .string ByteArray.empty, .slice none 0 0]) 5 64 Try.underlying57 hi hz0 hz1 hz2 rfl (by decide) (.slice A3 pre.length c3) pre.length (pre.flatMap (fun (x : Fx) => x.1.cs)) rfl HOV.out ⟨W.heap.size, 0, none⟩ 1 1 x.1.cs rfl rfl (cells_lit #[.int .i64 x.1.k, .int .i64 x.1.s, .int .i64 x.1.n, .string x.1.t, .slice x.1.A x.1.d.length x.1.c]) (fm_one x.1) (by unfold maxLen; omega) (by omega) (by have := HS3.out; simp; omega) ?_; intro v' w4 hown' hgrow _ hblk; obtain ⟨g', cap', rfl⟩ := ownsRow_succ hown'; rw [ownBlock_slice] at hgrow; rw [ownBlock_slice, ownBlock_slice] at hblk; have HO1 := Lib.hid hown'; have HG1 := Lib.hid hgrow; have g1 := HA12.out.grown hgrow (HNb.out _ (by omega)); have g2 := HA22.out.grown hgrow (HNb.out _ (by omega)); have k1 := g1.cell 0; have k2 := g2.cell 0; have k3 := g1.frozen 0; have k4 := g2.frozen 0; simp at k1 k2; clear hown' hgrow hblk g1 g2)
    obtain ⟨q1, q2, q3⟩ := FV.step (A2 := some ⟨g', 0, none⟩) (c2 := cap') HS0.out HA1.out HV.out HR5.out HGF.out HG1.out HO1.out rfl
    exact ⟨q2.from _, q3, q1⟩
  case done =>
    rintro D xs W hD hS hv hK
    obtain ⟨hpu, v, e, hga, hst⟩ := hS
    obtain ⟨A3, c3, a1, a2, ov, hx, hk, hs⟩ := hv
    have HPU := Lib.hid hpu
    have HOV := Lib.hid ov
    have HX := Lib.hid hx
    have HK := Lib.hid hk
    have HKD := Lib.hid hK
    have HDb : Hid (w1.heap.size ≤ D) := by have := HSZ.out; show _ ≤ _; omega
    have HGA := Lib.hid hga
    have HA1 := Lib.hid a1
    have HA2 := Lib.hid a2
    have f0 := hga.cell_some (i := 0) (v := v) rfl
    have f0z := hga.frozen 0
    have HNE : Hid (gf ≠ w1.heap.size ∧ gf ≠ w1.heap.size + 1) := by have := HGF.out; constructor <;> omega
    have s1 := hga.set 0 (.slice none 0 0)
    simp at s1
    have s2 := a1.other (h := gf) (fun e => HNE.out.2 e.symm) 0 (.slice none 0 0)
    have s3 := a2.other (h := gf) (fun e => HNE.out.1 e.symm) 0 (.slice none 0 0)
    have f1 := s1.cell_some (i := 1) (v := .int .i64 e) rfl
    have c0 := s2.cell_some (i := 0) (v := .slice A3 xs.length c3) rfl
    have c2 := s3.cell_some (i := 0) (v := .int .i64 (usedS xs : Nat)) rfl
    have HSG := Lib.hid s1
    have HSL := Lib.hid s2
    have q := grown_setCellZ W gf 0 (.slice none 0 0)
    have HQ := Lib.hid q
    have hr0 : ∀ (A : Option Addr), (∀ k, blk A = some k → w1.heap.size + 4 ≤ k) → blk A = none ∨ blk A ≠ some gf := fun A h => by
      cases hA : blk A with
      | none => exact .inl rfl
      | some k => exact .inr (fun e => by injection e with e; have := h k hA; have := HGF.out; omega)
    have HOV1 := Lib.hid (ov.keep q (hr0 _ (fun k hk => (ov.base_ k hk).1)))
    have HX1 : Hid (∀ x ∈ xs, OwnB (W.setCell ⟨gf, 0, none⟩ (.slice none 0 0)) (w1.heap.size + 4) x.1.A x.1.c x.1.d) := fun x hx' => (hx x hx').keep q (hr0 _ (fun k hk => ((hx x hx').base_ k hk).1))
    have HK1 := Lib.hid (hk.trans (KpF.of q rfl))
    have HR0 := Lib.hid hr0
    have HKD1 : Hid ((W.setCell ⟨gf, 0, none⟩ (.slice none 0 0)).heap[D]? = some (.deferred (some []))) := (q.block D (Array.getElem?_eq_some_iff.1 hK).1 (fun e => by injection e with e; have := HDb.out; have := HGF.out; omega)).trans hK
    have HS := Lib.hid hs
    clear hpu ov hx hk hga a1 a2 s1 s2 s3 q hr0 hs
    rcases hst with ⟨hw, rfl⟩ | ⟨he, hbd⟩
    · have HFO := Lib.hid (HPU.out.pu.wait dcP hw)
      clear hw
      obtain ⟨bs, hbs⟩ : ∃ bs, bs = all.drop (usedS xs) := ⟨_, rfl⟩
      have hle := HPU.out.le
      have hcap := O1.out.cap
      have hcm := O1.out.capmax
      have HBS := Lib.hid hbs
      have HRA : Hid (RdB (W.setCell ⟨gf, 0, none⟩ (.slice none 0 0)) A1 all) := KpF.rd O1.out.rd HK1.out (fun e => by have h9 := (O1.out.base_ _ e).1; have := HF.out.lt; simp at h9; omega)
      have HCL : Hid (∀ A' c' L, L = all.length - usedS xs → RdB (W.setCell ⟨gf, 0, none⟩ (.slice none 0 0)) A' bs ∧ (A' = none → c' = 0) → Calls Try.prog 87 #[.slice A' L c'] (W.setCell ⟨gf, 0, none⟩ (.slice none 0 0)) (RetB (W.setCell ⟨gf, 0, none⟩ (.slice none 0 0)) bs)) := by
        rintro A' c' L rfl ⟨h1, h2⟩
        have hl : bs.length = all.length - usedS xs := by rw [hbs, List.length_drop]
        have h := sclone_calls A' c' bs _ h1 (by omega) h2
        rwa [hl] at h
      clear hbs
      have HZ1 := Lib.hid (own_zero O1.out)
      cases A1 with
      | none =>
        obtain rfl : c1 = 0 := HZ1.out rfl
        have hz : all.length = 0 := by omega
        have hu : usedS xs = 0 := by omega
        have hb0 : Hid (RdB (W.setCell ⟨gf, 0, none⟩ (.slice none 0 0)) none bs) := by show RdB _ _ _; rw [HBS.out]; have h := HRA.out.cut (usedS xs) 0 (by omega); simpa using h
        gi_wp2
        refine ⟨trivial, (callsIn_wide.2 (HCL.out none 0 _ (by omega) ⟨hb0.out, fun _ => rfl⟩)).mono ?_⟩
        rintro e w5 ⟨A5, c5, rfl, o5, e5⟩
        have O5 := Lib.hid o5
        have E5 := Lib.hid e5
        have g1 := HSG.out.ext e5
        have g2 := HSL.out.ext e5
        have f0 := g1.cell_some (i := 0) (v := .slice none 0 0) rfl
        have f0z := g1.frozen 0
        have t1 := g1.set 0 (.slice A5 bs.length c5)
        simp at t1
        have t2 := g2.other (h := gf) (fun e => HNE.out.2 e.symm) 0 (.slice A5 bs.length c5)
        have f1 := t1.cell_some (i := 1) (v := .int .i64 0) rfl
        have c0 := t2.cell_some (i := 0) (v := .slice A3 xs.length c3) rfl
        have q6 := grown_setCellZ w5 gf 0 (.slice A5 bs.length c5)
        have HT1 := Lib.hid t1
        have HOV6 := Lib.hid ((HOV1.out.ext e5).keep q6 (HR0.out _ (fun k hk => (HOV1.out.base_ k hk).1)))
        have HX6 : Hid (∀ x ∈ xs, OwnB (w5.setCell ⟨gf, 0, none⟩ (.slice A5 bs.length c5)) (w1.heap.size + 4) x.1.A x.1.c x.1.d) := fun x hx' => ((HX1.out x hx').ext e5).keep q6 (HR0.out _ (fun k hk => ((HX1.out x hx').base_ k hk).1))
        have HK6 := Lib.hid ((HK1.out.trans (Ext.kpf e5)).trans (KpF.of q6 rfl))
        have HO6 := Lib.hid ((o5.keep q6 (HR0.out _ (fun k hk => by have h9 := (o5.base_ k hk).1; have h8 := HS.out; simp at h9; omega))).lower (Nat.zero_le _))
        have HKD6 : Hid ((w5.setCell ⟨gf, 0, none⟩ (.slice A5 bs.length c5)).heap[D]? = some (.deferred (some []))) := (q6.block D (Array.getElem?_eq_some_iff.1 (e5.block HKD1.out)).1 (fun e => by injection e with e; have := HDb.out; have := HGF.out; omega)).trans (e5.block HKD1.out)
        clear o5 e5 g1 g2 t1 t2 q6
        gi_wp2
        gi_region
        gi_wp2
        refine ⟨by simp, .inl ⟨_, _, rfl, run_takeDeferred (w := (w5.setCell ⟨gf, 0, none⟩ (.slice A5 bs.length c5)).drew) HKD6.out, ?_⟩⟩
        refine ⟨_, results_tmp2 rfl _ _ _, ?_⟩
        exact push_fin E1.out HOV6.out HX6.out HK6.out HT1.out HO6.out (by simpa [HBS.out] using HFO.out) HKD6.out HDb.out
      | some ad =>
        have HRC : Hid (RdB (W.setCell ⟨gf, 0, none⟩ (.slice none 0 0)) (if c1 = usedS xs then some ad else (some ad).map (·.add (usedS xs))) bs) := by rw [HBS.out]; exact HRA.out.cut (usedS xs) c1 hcap
        by_cases hcc : c1 = usedS xs
        · subst hcc
          gi_wp2
          refine ⟨trivial, (callsIn_wide.2 (HCL.out (some ad) 0 _ (by omega) ⟨by have h := HRC.out; simpa using h, fun h => by cases h⟩)).mono ?_⟩
          rintro e w5 ⟨A5, c5, rfl, o5, e5⟩
          have O5 := Lib.hid o5
          have E5 := Lib.hid e5
          have g1 := HSG.out.ext e5
          have g2 := HSL.out.ext e5
          have f0 := g1.cell_some (i := 0) (v := .slice none 0 0) rfl
          have f0z := g1.frozen 0
          have t1 := g1.set 0 (.slice A5 bs.length c5)
          simp at t1
          have t2 := g2.other (h := gf) (fun e => HNE.out.2 e.symm) 0 (.slice A5 bs.length c5)
          have f1 := t1.cell_some (i := 1) (v := .int .i64 0) rfl
          have c0 := t2.cell_some (i := 0) (v := .slice A3 xs.length c3) rfl
          have q6 := grown_setCellZ w5 gf 0 (.slice A5 bs.length c5)
          have HT1 := Lib.hid t1
          have HOV6 := Lib.hid ((HOV1.out.ext e5).keep q6 (HR0.out _ (fun k hk => (HOV1.out.base_ k hk).1)))
          have HX6 : Hid (∀ x ∈ xs, OwnB (w5.setCell ⟨gf, 0, none⟩ (.slice A5 bs.length c5)) (w1.heap.size + 4) x.1.A x.1.c x.1.d) := fun x hx' => ((HX1.out x hx').ext e5).keep q6 (HR0.out _ (fun k hk => ((HX1.out x hx').base_ k hk).1))
          have HK6 := Lib.hid ((HK1.out.trans (Ext.kpf e5)).trans (KpF.of q6 rfl))
          have HO6 := Lib.hid ((o5.keep q6 (HR0.out _ (fun k hk => by have h9 := (o5.base_ k hk).1; have h8 := HS.out; simp at h9; omega))).lower (Nat.zero_le _))
          have HKD6 : Hid ((w5.setCell ⟨gf, 0, none⟩ (.slice A5 bs.length c5)).heap[D]? = some (.deferred (some []))) := (q6.block D (Array.getElem?_eq_some_iff.1 (e5.block HKD1.out)).1 (fun e => by injection e with e; have := HDb.out; have := HGF.out; omega)).trans (e5.block HKD1.out)
          clear o5 e5 g1 g2 t1 t2 q6
          gi_wp2
          gi_region
          gi_wp2
          refine ⟨by simp, .inl ⟨_, _, rfl, run_takeDeferred (w := (w5.setCell ⟨gf, 0, none⟩ (.slice A5 bs.length c5)).drew) HKD6.out, ?_⟩⟩
          refine ⟨_, results_tmp2 rfl _ _ _, ?_⟩
          exact push_fin E1.out HOV6.out HX6.out HK6.out HT1.out HO6.out (by simpa [HBS.out] using HFO.out) HKD6.out HDb.out
        · have hcc2 : ¬ usedS xs = c1 := fun e => hcc e.symm
          gi_wp2
          refine ⟨trivial, (callsIn_wide.2 (HCL.out (some (ad.add (usedS xs))) (c1 - usedS xs) _ (by omega) ⟨by have h := HRC.out; rwa [if_neg hcc] at h, fun h => by cases h⟩)).mono ?_⟩
          rintro e w5 ⟨A5, c5, rfl, o5, e5⟩
          have O5 := Lib.hid o5
          have E5 := Lib.hid e5
          have g1 := HSG.out.ext e5
          have g2 := HSL.out.ext e5
          have f0 := g1.cell_some (i := 0) (v := .slice none 0 0) rfl
          have f0z := g1.frozen 0
          have t1 := g1.set 0 (.slice A5 bs.length c5)
          simp at t1
          have t2 := g2.other (h := gf) (fun e => HNE.out.2 e.symm) 0 (.slice A5 bs.length c5)
          have f1 := t1.cell_some (i := 1) (v := .int .i64 0) rfl
          have c0 := t2.cell_some (i := 0) (v := .slice A3 xs.length c3) rfl
          have q6 := grown_setCellZ w5 gf 0 (.slice A5 bs.length c5)
          have HT1 := Lib.hid t1
          have HOV6 := Lib.hid ((HOV1.out.ext e5).keep q6 (HR0.out _ (fun k hk => (HOV1.out.base_ k hk).1)))
          have HX6 : Hid (∀ x ∈ xs, OwnB (w5.setCell ⟨gf, 0, none⟩ (.slice A5 bs.length c5)) (w1.heap.size + 4) x.1.A x.1.c x.1.d) := fun x hx' => ((HX1.out x hx').ext e5).keep q6 (HR0.out _ (fun k hk => ((HX1.out x hx').base_ k hk).1))
          have HK6 := Lib.hid ((HK1.out.trans (Ext.kpf e5)).trans (KpF.of q6 rfl))
          have HO6 := Lib.hid ((o5.keep q6 (HR0.out _ (fun k hk => by have h9 := (o5.base_ k hk).1; have h8 := HS.out; simp at h9; omega))).lower (Nat.zero_le _))
          have HKD6 : Hid ((w5.setCell ⟨gf, 0, none⟩ (.slice A5 bs.length c5)).heap[D]? = some (.deferred (some []))) := (q6.block D (Array.getElem?_eq_some_iff.1 (e5.block HKD1.out)).1 (fun e => by injection e with e; have := HDb.out; have := HGF.out; omega)).trans (e5.block HKD1.out)
          clear o5 e5 g1 g2 t1 t2 q6
          gi_wp2
          gi_region
          gi_wp2
          refine ⟨by simp, .inl ⟨_, _, rfl, run_takeDeferred (w := (w5.setCell ⟨gf, 0, none⟩ (.slice A5 bs.length c5)).drew) HKD6.out, ?_⟩⟩
          refine ⟨_, results_tmp2 rfl _ _ _, ?_⟩
          exact push_fin E1.out HOV6.out HX6.out HK6.out HT1.out HO6.out (by simpa [HBS.out] using HFO.out) HKD6.out HDb.out
    · have HFO := Lib.hid (HPU.out.pu.bad dcP hbd)
      have b1 : (e == 0) = false := by simpa using he
      clear hbd
      gi_wp2
      gi_region
      gi_wp2
      refine ⟨by simp, .inl ⟨_, _, rfl, run_takeDeferred (w := (W.setCell ⟨gf, 0, none⟩ (.slice none 0 0)).drew) HKD1.out, ?_⟩⟩
      refine ⟨_, results_tmp2 rfl _ _ _, ?_⟩
      exact push_fin E1.out HOV1.out HX1.out HK1.out HSG.out (OwnB.nil _ _) (by simpa using HFO.out) HKD1.out HDb.out
end Go.Proofs.Ytlgngnkaiidbeaa
