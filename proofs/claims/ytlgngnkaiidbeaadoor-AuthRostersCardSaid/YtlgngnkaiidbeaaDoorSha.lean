/- Contracts of package sha's small functions and their references. -/
import Derived.Test.YtlgngnkaiidbeaaDoorRef01
import Derived.Test.YtlgngnkaiidbeaaDoorPlainSha
import Derived.Laws.BitsAll
import Derived.Test.YtlgngnkaiidbeaaDoorArr
set_option maxRecDepth 100000
set_option linter.unusedVariables false
set_option linter.unusedSimpArgs false
namespace Go.Proofs.YtlgngnkaiidbeaaDoor
open Go.RowKit

/-- numbers as cells -/
def uv (n : Nat) : Value := .int .u32 (n : Int)
def uvs (l : List Nat) : Array Value := (l.map uv).toArray

theorem rotr_bits (x n : Nat) (hx : x < 4294967296) : bits BinOp.or IntKind.u32 ((x : Int) / 2 ^ n) ((x : Int) * 2 ^ (32 - n) % 4294967296) = (Sha.rotr n x : Int) := by
  have h := u32_or_nat (x / 2 ^ n) (x * 2 ^ (32 - n) % 4294967296) (Nat.lt_of_le_of_lt (Nat.div_le_self _ _) hx) (Nat.mod_lt _ (by decide))
  unfold Sha.rotr
  rw [← h]
  simp
theorem turn_calls (x n : Nat) (w : World) (hx : x < 4294967296) (h1 : 1 ≤ n) (h2 : n ≤ 31) :
    Calls Tryd.prog 57 #[.int .u32 x, .int .u64 n] w fun e w' => e = .returned (.int .u32 (Sha.rotr n x)) ∧ w = w' := by
  go_enter Tryd.func57, Tryd.ntmps57
  go_wp2
  go_ret
  exact ⟨ret_int (rotr_bits x n hx), rfl⟩
theorem neg_and31 (m : Nat) (h1 : 1 ≤ m) (h2 : m ≤ 31) : bits BinOp.and IntKind.u64 (IntKind.u64.wrap (-((32 - m : Nat) : Int))) 31 = (m : Int) := by
  have e : IntKind.u64.wrap (-((32 - m : Nat) : Int)) = ((18446744073709551616 - (32 - m) : Nat) : Int) := by
    simp only [IntKind.wrap, IntKind.signed, IntKind.bits]
    simp
    omega
  rw [e]
  have h := u64_and_nat (18446744073709551616 - (32 - m)) 31 (by omega) (by omega)
  rw [show (31 : Nat) = 2 ^ 5 - 1 from rfl, Nat.and_two_pow_sub_one_eq_mod] at h
  rw [show (18446744073709551616 - (32 - m)) % 2 ^ 5 = m from by omega] at h
  exact h
theorem rotl_calls (x m : Nat) (w : World) (hx : x < 4294967296) (h1 : 1 ≤ m) (h2 : m ≤ 31) :
    Calls Tryd.prog 61 #[.int .u32 x, .int .i64 (-((32 - m : Nat) : Int))] w fun e w' => e = .returned (.int .u32 (Sha.rotr (32 - m) x)) ∧ w = w' := by
  have hs := neg_and31 m h1 h2
  have HR : Hid (bits BinOp.or IntKind.u32 ((x : Int) * 2 ^ m % 4294967296) ((x : Int) / 2 ^ (32 - m)) = (Sha.rotr (32 - m) x : Int)) := by
    have h := u32_or_nat (x * 2 ^ m % 4294967296) (x / 2 ^ (32 - m)) (Nat.mod_lt _ (by decide)) (Nat.lt_of_le_of_lt (Nat.div_le_self _ _) hx)
    show _ = _
    unfold Sha.rotr
    rw [Nat.or_comm, show 32 - (32 - m) = m from by omega, ← h]
    simp
  generalize -((32 - m : Nat) : Int) = z at *
  go_enter Tryd.func61, Tryd.ntmps61
  go_wp2
  go_ret
  exact ⟨ret_int HR.out, rfl⟩
theorem right_calls (x n : Nat) (w : World) (hx : x < 4294967296) (h1 : 1 ≤ n) (h2 : n ≤ 31) :
    Calls Tryd.prog 59 #[.int .u32 x, .int .i64 n] w fun e w' => e = .returned (.int .u32 (Sha.rotr n x)) ∧ w = w' := by
  go_enter Tryd.func59, Tryd.ntmps59
  go_wp2_with fail
  have hz : -((32 - (32 - n) : Nat) : Int) = -(n : Int) := by omega
  have hz2 : 32 - (32 - n) = n := by omega
  have h := rotl_calls x (32 - n) w hx (by omega) (by omega)
  rw [hz, hz2] at h
  clear hz hz2
  refine h.mono ?_
  rintro e w' ⟨rfl, rfl⟩
  go_wp2
  go_ret
  exact ⟨rfl, rfl⟩
theorem right2 (x : Nat) (w : World) (hx : x < 4294967296) : Calls Tryd.prog 59 #[.int .u32 x, .int .i64 2] w fun e w' => e = .returned (.int .u32 (Sha.rotr 2 x)) ∧ w = w' := right_calls x 2 w hx (by decide) (by decide)
theorem turn2 (x : Nat) (w : World) (hx : x < 4294967296) : Calls Tryd.prog 57 #[.int .u32 x, .int .u64 2] w fun e w' => e = .returned (.int .u32 (Sha.rotr 2 x)) ∧ w = w' := turn_calls x 2 w hx (by decide) (by decide)
theorem right6 (x : Nat) (w : World) (hx : x < 4294967296) : Calls Tryd.prog 59 #[.int .u32 x, .int .i64 6] w fun e w' => e = .returned (.int .u32 (Sha.rotr 6 x)) ∧ w = w' := right_calls x 6 w hx (by decide) (by decide)
theorem turn6 (x : Nat) (w : World) (hx : x < 4294967296) : Calls Tryd.prog 57 #[.int .u32 x, .int .u64 6] w fun e w' => e = .returned (.int .u32 (Sha.rotr 6 x)) ∧ w = w' := turn_calls x 6 w hx (by decide) (by decide)
theorem right7 (x : Nat) (w : World) (hx : x < 4294967296) : Calls Tryd.prog 59 #[.int .u32 x, .int .i64 7] w fun e w' => e = .returned (.int .u32 (Sha.rotr 7 x)) ∧ w = w' := right_calls x 7 w hx (by decide) (by decide)
theorem turn7 (x : Nat) (w : World) (hx : x < 4294967296) : Calls Tryd.prog 57 #[.int .u32 x, .int .u64 7] w fun e w' => e = .returned (.int .u32 (Sha.rotr 7 x)) ∧ w = w' := turn_calls x 7 w hx (by decide) (by decide)
theorem right11 (x : Nat) (w : World) (hx : x < 4294967296) : Calls Tryd.prog 59 #[.int .u32 x, .int .i64 11] w fun e w' => e = .returned (.int .u32 (Sha.rotr 11 x)) ∧ w = w' := right_calls x 11 w hx (by decide) (by decide)
theorem turn11 (x : Nat) (w : World) (hx : x < 4294967296) : Calls Tryd.prog 57 #[.int .u32 x, .int .u64 11] w fun e w' => e = .returned (.int .u32 (Sha.rotr 11 x)) ∧ w = w' := turn_calls x 11 w hx (by decide) (by decide)
theorem right13 (x : Nat) (w : World) (hx : x < 4294967296) : Calls Tryd.prog 59 #[.int .u32 x, .int .i64 13] w fun e w' => e = .returned (.int .u32 (Sha.rotr 13 x)) ∧ w = w' := right_calls x 13 w hx (by decide) (by decide)
theorem turn13 (x : Nat) (w : World) (hx : x < 4294967296) : Calls Tryd.prog 57 #[.int .u32 x, .int .u64 13] w fun e w' => e = .returned (.int .u32 (Sha.rotr 13 x)) ∧ w = w' := turn_calls x 13 w hx (by decide) (by decide)
theorem right17 (x : Nat) (w : World) (hx : x < 4294967296) : Calls Tryd.prog 59 #[.int .u32 x, .int .i64 17] w fun e w' => e = .returned (.int .u32 (Sha.rotr 17 x)) ∧ w = w' := right_calls x 17 w hx (by decide) (by decide)
theorem turn17 (x : Nat) (w : World) (hx : x < 4294967296) : Calls Tryd.prog 57 #[.int .u32 x, .int .u64 17] w fun e w' => e = .returned (.int .u32 (Sha.rotr 17 x)) ∧ w = w' := turn_calls x 17 w hx (by decide) (by decide)
theorem right18 (x : Nat) (w : World) (hx : x < 4294967296) : Calls Tryd.prog 59 #[.int .u32 x, .int .i64 18] w fun e w' => e = .returned (.int .u32 (Sha.rotr 18 x)) ∧ w = w' := right_calls x 18 w hx (by decide) (by decide)
theorem turn18 (x : Nat) (w : World) (hx : x < 4294967296) : Calls Tryd.prog 57 #[.int .u32 x, .int .u64 18] w fun e w' => e = .returned (.int .u32 (Sha.rotr 18 x)) ∧ w = w' := turn_calls x 18 w hx (by decide) (by decide)
theorem right19 (x : Nat) (w : World) (hx : x < 4294967296) : Calls Tryd.prog 59 #[.int .u32 x, .int .i64 19] w fun e w' => e = .returned (.int .u32 (Sha.rotr 19 x)) ∧ w = w' := right_calls x 19 w hx (by decide) (by decide)
theorem turn19 (x : Nat) (w : World) (hx : x < 4294967296) : Calls Tryd.prog 57 #[.int .u32 x, .int .u64 19] w fun e w' => e = .returned (.int .u32 (Sha.rotr 19 x)) ∧ w = w' := turn_calls x 19 w hx (by decide) (by decide)
theorem right22 (x : Nat) (w : World) (hx : x < 4294967296) : Calls Tryd.prog 59 #[.int .u32 x, .int .i64 22] w fun e w' => e = .returned (.int .u32 (Sha.rotr 22 x)) ∧ w = w' := right_calls x 22 w hx (by decide) (by decide)
theorem turn22 (x : Nat) (w : World) (hx : x < 4294967296) : Calls Tryd.prog 57 #[.int .u32 x, .int .u64 22] w fun e w' => e = .returned (.int .u32 (Sha.rotr 22 x)) ∧ w = w' := turn_calls x 22 w hx (by decide) (by decide)
theorem right25 (x : Nat) (w : World) (hx : x < 4294967296) : Calls Tryd.prog 59 #[.int .u32 x, .int .i64 25] w fun e w' => e = .returned (.int .u32 (Sha.rotr 25 x)) ∧ w = w' := right_calls x 25 w hx (by decide) (by decide)
theorem turn25 (x : Nat) (w : World) (hx : x < 4294967296) : Calls Tryd.prog 57 #[.int .u32 x, .int .u64 25] w fun e w' => e = .returned (.int .u32 (Sha.rotr 25 x)) ∧ w = w' := turn_calls x 25 w hx (by decide) (by decide)
theorem start_calls (w : World) :
    Calls Tryd.prog 52 #[] w fun e w' => e = .returned (.agg (uvs Sha.start)) ∧ Ext w w' := by
  go_enter Tryd.func52, Tryd.ntmps52
  go_wp2
  exact bodyPost_ret (v := .agg (uvs Sha.start)) (by simp [results, Tryd.results52, go_sem]; rfl) rfl ⟨rfl, (Ext.refl _).alloc _⟩
theorem rstart_calls (w : World) :
    Calls Tryd.prog 44 #[] w fun e w' => e = .returned (.agg (uvs Sha.start)) ∧ Ext w w' := by
  go_enter Tryd.func44, Tryd.ntmps44
  go_wp2
  exact bodyPost_ret (v := .agg (uvs Sha.start)) (by simp [results, Tryd.results44, go_sem]; rfl) rfl ⟨rfl, (Ext.refl _).alloc _⟩
def kLit : Array Value := #[.int .u32 1116352408, .int .u32 1899447441, .int .u32 3049323471, .int .u32 3921009573, .int .u32 961987163, .int .u32 1508970993, .int .u32 2453635748, .int .u32 2870763221, .int .u32 3624381080, .int .u32 310598401, .int .u32 607225278, .int .u32 1426881987, .int .u32 1925078388, .int .u32 2162078206, .int .u32 2614888103, .int .u32 3248222580, .int .u32 3835390401, .int .u32 4022224774, .int .u32 264347078, .int .u32 604807628, .int .u32 770255983, .int .u32 1249150122, .int .u32 1555081692, .int .u32 1996064986, .int .u32 2554220882, .int .u32 2821834349, .int .u32 2952996808, .int .u32 3210313671, .int .u32 3336571891, .int .u32 3584528711, .int .u32 113926993, .int .u32 338241895, .int .u32 666307205, .int .u32 773529912, .int .u32 1294757372, .int .u32 1396182291, .int .u32 1695183700, .int .u32 1986661051, .int .u32 2177026350, .int .u32 2456956037, .int .u32 2730485921, .int .u32 2820302411, .int .u32 3259730800, .int .u32 3345764771, .int .u32 3516065817, .int .u32 3600352804, .int .u32 4094571909, .int .u32 275423344, .int .u32 430227734, .int .u32 506948616, .int .u32 659060556, .int .u32 883997877, .int .u32 958139571, .int .u32 1322822218, .int .u32 1537002063, .int .u32 1747873779, .int .u32 1955562222, .int .u32 2024104815, .int .u32 2227730452, .int .u32 2361852424, .int .u32 2428436474, .int .u32 2756734187, .int .u32 3204031479, .int .u32 3329325298]
set_option maxHeartbeats 1000000 in
theorem kLit_eq : kLit = uvs Sha.K := by kernel_rfl
theorem zero64 : (Tryd.prog.info? 83).map (fun i => (i.zero, i.size)) = some (some (.agg (uvs (List.replicate 64 0))), 64) := by kernel_rfl
theorem size64 : (Tryd.prog.info? 83).map (·.size) = some 64 := by kernel_rfl
theorem zero8 : (Tryd.prog.info? 71).map (fun i => (i.zero, i.size)) = some (some (.agg (uvs (List.replicate 8 0))), 8) := by kernel_rfl
theorem size8 : (Tryd.prog.info? 71).map (·.size) = some 8 := by kernel_rfl
theorem uvs_size (l : List Nat) : (uvs l).size = l.length := by simp [uvs]
theorem uvs_get (l : List Nat) (i : Nat) (h : i < l.length) : (uvs l)[i]? = some (.int .u32 (Sha.at_ l i : Int)) := by
  simp [uvs, uv, Sha.at_, List.getElem?_eq_getElem h]
theorem uvs_set (l : List Nat) (i n : Nat) : (uvs l).setIfInBounds i (.int .u32 (n : Int)) = uvs (l.set i n) := by
  unfold uvs; rw [List.map_set, ← List.setIfInBounds_toArray]; rfl
theorem uvs_one (l : List Nat) : ∀ v ∈ uvs l, v.oneCell' = true := by
  intro v hv
  simp [uvs] at hv
  obtain ⟨n, _, rfl⟩ := hv
  rfl
set_option maxHeartbeats 1000000 in
theorem constants_calls (w : World) :
    Calls Tryd.prog 56 #[] w fun e w' => e = .returned (.agg (uvs Sha.K)) ∧ Ext w w' := by
  go_enter Tryd.func56, Tryd.ntmps56
  go_wp2_with (first | (refine alA _ rfl 83 rfl _ _ zero64 ?_; intro g w1 hg hs1 h1 e1; have H1 := Lib.hid h1; have E1 := Lib.hid e1; have HG := Lib.hid hg; clear h1 e1 hs1 hg) | (refine wpList_build rfl 83 _ rfl (by kernel_rfl) ?_; rw [show (Tryd.prog.built 83 _).getD #[] = kLit from by kernel_rfl, kLit_eq]) | (refine stA _ rfl 83 83 _ _ rfl g _ (uvs Sha.K) rfl rfl H1.out size64 rfl (uvs_one _) ?_; intro w2 hs2 h2 g2; have H2 := Lib.hid h2; have G2 := Lib.hid g2; clear h2 g2 hs2))
  exact ret_row Tryd.results56 g _ _ _ rfl H2.out Tryd.underlying83 rfl size64 ⟨rfl, E1.out.grown G2.out (fun k hk => by injection hk with hk; have := HG.out; omega)⟩
end Go.Proofs.YtlgngnkaiidbeaaDoor
