import Derived.Test.YtaiakkifefedoaaL2C
import Derived.Lib.BytesEntry
import Derived.Test.YtaiakkifefedoaaL1C
import Derived.ProofKit
import Derived.SliceStrings
import Derived.SizedLaws
import Derived.Deep.Slices
import Derived.Laws.BitsAllLaws
import Derived.Laws.OwnMore
import Derived.Outline
/- SHA-256 works on a block. (Printed by gen_shaE.py.) -/
namespace Go.Proofs.Ytaiakkifefedoaa
open Go.RowKit

def K2 : List Int := [1116352408, 1899447441, 3049323471, 3921009573, 961987163, 1508970993, 2453635748, 2870763221, 3624381080, 310598401, 607225278, 1426881987, 1925078388, 2162078206, 2614888103, 3248222580, 3835390401, 4022224774, 264347078, 604807628, 770255983, 1249150122, 1555081692, 1996064986, 2554220882, 2821834349, 2952996808, 3210313671, 3336571891, 3584528711, 113926993, 338241895, 666307205, 773529912, 1294757372, 1396182291, 1695183700, 1986661051, 2177026350, 2456956037, 2730485921, 2820302411, 3259730800, 3345764771, 3516065817, 3600352804, 4094571909, 275423344, 430227734, 506948616, 659060556, 883997877, 958139571, 1322822218, 1537002063, 1747873779, 1955562222, 2024104815, 2227730452, 2361852424, 2428436474, 2756734187, 3204031479, 3329325298]
def sg0 (x : Int) : Int := bits .xor .u32 (bits .xor .u32 (rolS x 25) (rolS x 14)) (x / 8)
def sg1 (x : Int) : Int := bits .xor .u32 (bits .xor .u32 (rolS x 15) (rolS x 13)) (x / 1024)
/-- The words of a schedule of SHA-256, one behind the other. -/
def sch2 (rest : List UInt8) : Nat → List Int
  | 0 => []
  | t + 1 => sch2 rest t ++ [if t < 16 then wordS (rest.getD (4 * t) 0) (rest.getD (4 * t + 1) 0) (rest.getD (4 * t + 2) 0) (rest.getD (4 * t + 3) 0)
      else add32 (add32 (add32 (sg1 ((sch2 rest t).getD (t - 2) 0)) ((sch2 rest t).getD (t - 7) 0)) (sg0 ((sch2 rest t).getD (t - 15) 0))) ((sch2 rest t).getD (t - 16) 0)]
theorem sch2_length (rest : List UInt8) : ∀ t, (sch2 rest t).length = t
  | 0 => rfl
  | t + 1 => by rw [sch2, List.length_append, sch2_length rest t]; rfl
def bs1 (e : Int) : Int := bits .xor .u32 (bits .xor .u32 (rolS e 26) (rolS e 21)) (rolS e 7)
def bs0 (a : Int) : Int := bits .xor .u32 (bits .xor .u32 (rolS a 30) (rolS a 19)) (rolS a 10)
def ch2 (e f g : Int) : Int := bits .xor .u32 (bits .and .u32 e f) (bits .and .u32 (bits .xor .u32 IntKind.u32.max e) g)
def mj2 (a b c : Int) : Int := bits .xor .u32 (bits .xor .u32 (bits .and .u32 a b) (bits .and .u32 a c)) (bits .and .u32 b c)
def xx2 (e f g i k p : Int) : Int := add32 (add32 (add32 (add32 i (bs1 e)) (ch2 e f g)) k) p
def yy2 (a b c : Int) : Int := add32 (bs0 a) (mj2 a b c)
/-- A round of SHA-256; so many rounds. -/
def rnd2 (p s : List Int) (t : Nat) : List Int :=
  let X := xx2 (s.getD 4 0) (s.getD 5 0) (s.getD 6 0) (s.getD 7 0) (K2.getD t 0) (p.getD t 0)
  [add32 X (yy2 (s.getD 0 0) (s.getD 1 0) (s.getD 2 0)), s.getD 0 0, s.getD 1 0, s.getD 2 0, add32 (s.getD 3 0) X, s.getD 4 0, s.getD 5 0, s.getD 6 0]
def rnds2 (p s : List Int) : Nat → List Int
  | 0 => s
  | t + 1 => rnd2 p (rnds2 p s t) t
theorem add32_4 (a b c d : Int) : (a + b + c + d) % 4294967296 = add32 (add32 (add32 a b) c) d := by
  have h : ∀ x, IntKind.u32.wrap x = x % 4294967296 := fun _ => rfl
  unfold add32
  rw [h, h, h]
  omega
theorem add32_7 (i b c k p s m : Int) : (i + b + c + k + p + (s + m)) % 4294967296 = add32 (add32 (add32 (add32 (add32 i b) c) k) p) (add32 s m) := by
  have h : ∀ x, IntKind.u32.wrap x = x % 4294967296 := fun _ => rfl
  unfold add32
  rw [h, h, h, h, h, h]
  omega
theorem add32_6 (d i b c k p : Int) : (d + (i + b + c + k + p)) % 4294967296 = add32 d (add32 (add32 (add32 (add32 i b) c) k) p) := by
  have h : ∀ x, IntKind.u32.wrap x = x % 4294967296 := fun _ => rfl
  unfold add32
  rw [h, h, h, h, h]
  omega
theorem rnds2_succ {p s : List Int} {t : Nat} {a b c d e f g i : Int} (h : rnds2 p s t = [a, b, c, d, e, f, g, i]) :
    rnds2 p s (t + 1) = [add32 (xx2 e f g i (K2.getD t 0) (p.getD t 0)) (yy2 a b c), a, b, c, add32 d (xx2 e f g i (K2.getD t 0) (p.getD t 0)), e, f, g] := by
  rw [rnds2, h, rnd2]
  rfl
theorem rnds2_length (p s : List Int) (h : s.length = 8) : ∀ t, (rnds2 p s t).length = 8
  | 0 => h
  | _ + 1 => rfl
/-- SHA-256 works on a block. -/
def comp2 (ws : List Int) (rest : List UInt8) : List Int := addW ws (rnds2 (sch2 rest 64) ws 64) 8

/-- The cells of a list of words. -/
def wc (l : List Int) : List Value := l.map (Value.int .u32)
theorem wc_length (l : List Int) : (wc l).length = l.length := by simp [wc]
theorem wc_get (l : List Int) (j : Nat) (h : j < l.length) : (wc l)[j]? = some (.int .u32 (l.getD j 0)) := by
  simp [wc, List.getElem?_eq_getElem h, List.getD]
theorem wc_one (l : List Int) : (wc l).all (·.oneCell') = true := by
  simp only [List.all_eq_true, wc, List.mem_map]
  rintro x ⟨b, _, rfl⟩
  rfl
section
variable {P : Program} {w : World} {a : Act}
/-- The end of a function that gives an object. -/
theorem ret_box1 {fn : Func} {R : Ending → World → Prop} {p : Tmp} {ty : TypeId} {g : Nat} {cs : List Value} {d : TypeDesc} (h : fn.results = #[.cell p ty]) (hd : a.defers = [])
    (hp : a.tmps.getD p undef = .pointer (some ⟨g, 0, none⟩)) (B : BoxF w g cs) (hu : P.underlying ty = some d) (hrow : d.isRow = true) (hi : (P.info? ty).map (·.size) = some cs.length)
    (hR : R (.returned (.agg cs.toArray)) w) : bodyPost P fn R .ret a w := by
  refine bodyPost_ret (v := .agg cs.toArray) ?_ hd hR
  have e : (results fn a.tmps).run P w = ((asAddr (a.tmps.getD p undef)).run P w).andThen fun a w' => (loadVar ty a).run P w' := by
    simp only [results, h]
    simp [Sem.run_bind]
  rw [e, hp]
  simp only [asAddr, Sem.run_pure, Result.andThen_ok, run_loadVar_mid w g 0 ty cs d B.box.range hu hrow hi]
end

end Go.Proofs.Ytaiakkifefedoaa
/- A hash takes bytes. -/
namespace Go.Proofs.Ytaiakkifefedoaa
open Go.RowKit

theorem Rd.onB {g : Nat} {w w' : World} {v : Value} {l : List UInt8} (h : Rd w v l) (k : On g w w') (hne : v.ownBlock ≠ some g) : Rd w' v l := by
  obtain ⟨A, cap, rfl, h1, h2, h3, h4⟩ := h
  refine ⟨A, cap, rfl, h1, h2, h3, fun hl => ?_⟩
  obtain ⟨b, o, rfl, hc⟩ := h4 hl
  refine ⟨b, o, rfl, fun j hj => k.cell (hc j hj) (fun e => hne (by simp [Value.ownBlock, ← e]))⟩

theorem Rd.far {w : World} {v : Value} {l : List UInt8} {g : Nat} (h : Rd w v l) (hg : w.heap.size ≤ g) (hl : l ≠ []) : v.ownBlock ≠ some g := by
  obtain ⟨A, cap, rfl, h1, h2, h3, h4⟩ := h
  obtain ⟨b, o, rfl, hc⟩ := h4 hl
  have := World.block_lt_of_cell? w _ (hc 0 (by cases l with | nil => exact absurd rfl hl | cons a l => simp))
  intro e
  simp [Value.ownBlock] at e
  subst e
  dsimp only at this
  omega

def comp (kind : Int) (ws : List Int) (rest : List UInt8) : List Int := if kind = 1 then comp1 ws rest else comp2 ws rest
/-- A byte comes: the words, the block, how much of it is there. -/
def stepH (kind : Int) (s : List Int × List UInt8 × Nat) (c : UInt8) : List Int × List UInt8 × Nat :=
  if s.2.2 + 1 < 64 then (s.1, s.2.1.set s.2.2 c, s.2.2 + 1) else (comp kind s.1 (s.2.1.set s.2.2 c), s.2.1.set s.2.2 c, 0)
def feedH (kind : Int) (s : List Int × List UInt8 × Nat) (l : List UInt8) : List Int × List UInt8 × Nat := l.foldl (stepH kind) s
def goodH (s : List Int × List UInt8 × Nat) : Prop := s.1.length = 8 ∧ s.2.1.length = 64 ∧ s.2.2 < 64
def hashS (kind : Int) (s : List Int × List UInt8 × Nat) (all : Int) : List Value := hashC kind s.1 s.2.1 (s.2.2 : Int) all

theorem addW_length (ws vs : List Int) (j : Nat) (h1 : j ≤ ws.length) (h2 : j ≤ vs.length) : (addW ws vs j).length = ws.length := by
  simp [addW]; omega
theorem comp_length (kind : Int) (ws : List Int) (rest : List UInt8) (h : ws.length = 8) : (comp kind ws rest).length = 8 := by
  unfold comp
  split
  · unfold comp1
    rw [addW_length _ _ _ (by omega) (by simp), h]
  · unfold comp2
    rw [addW_length _ _ _ (by omega) (by rw [rnds2_length _ _ h]; omega), h]
theorem goodH_step (kind : Int) {s : List Int × List UInt8 × Nat} (c : UInt8) (h : goodH s) : goodH (stepH kind s c) := by
  obtain ⟨h1, h2, h3⟩ := h
  unfold stepH
  split
  · exact ⟨h1, by simpa using h2, by assumption⟩
  · exact ⟨comp_length _ _ _ h1, by simpa using h2, by show 0 < 64; omega⟩
theorem goodH_feed (kind : Int) (l : List UInt8) : ∀ {s : List Int × List UInt8 × Nat}, goodH s → goodH (feedH kind s l) := by
  induction l with
  | nil => intro s h; exact h
  | cons c l ih => intro s h; exact ih (goodH_step kind c h)
theorem feedH_append (kind : Int) (s : List Int × List UInt8 × Nat) (l m : List UInt8) : feedH kind s (l ++ m) = feedH kind (feedH kind s l) m := by
  simp [feedH, List.foldl_append]
theorem feedH_take (kind : Int) (s : List Int × List UInt8 × Nat) (l : List UInt8) (k : Nat) (hk : k < l.length) :
    feedH kind s (l.take (k + 1)) = stepH kind (feedH kind s (l.take k)) (l.getD k 0) := by
  rw [List.take_add_one, feedH_append, List.getElem?_eq_getElem hk, List.getD_eq_getElem?_getD, List.getElem?_eq_getElem hk]
  rfl

theorem hashC_n {kind : Int} {ws : List Int} {rest : List UInt8} {n all : Int} (h1 : ws.length = 8) (h2 : rest.length = 64) : (hashC kind ws rest n all)[73]? = some (.int .i64 n) := by
  rw [hashC, List.getElem?_cons_succ, List.getElem?_append_right (by simp [h1]), List.getElem?_append_right (by simp [h1, bc_length, h2])]
  simp [h1, bc_length, h2]
theorem hashC_all {kind : Int} {ws : List Int} {rest : List UInt8} {n all : Int} (h1 : ws.length = 8) (h2 : rest.length = 64) : (hashC kind ws rest n all)[74]? = some (.int .i64 all) := by
  rw [hashC, List.getElem?_cons_succ, List.getElem?_append_right (by simp [h1]), List.getElem?_append_right (by simp [h1, bc_length, h2])]
  simp [h1, bc_length, h2]
theorem hashC_rest {kind : Int} {ws : List Int} {rest : List UInt8} {n all : Int} (h1 : ws.length = 8) (h2 : rest.length = 64) (j : Nat) (hj : j < 64) : (hashC kind ws rest n all)[9 + j]? = some (.int .u8 ((rest.getD j 0).toNat : Int)) := by
  rw [hashC, show 9 + j = (8 + j) + 1 by omega, List.getElem?_cons_succ, List.getElem?_append_right (by simp [h1]), List.length_map, h1, show 8 + j - 8 = j by omega, List.getElem?_append_left (by rw [bc_length]; omega), bc_get _ _ (by omega)]
theorem hashC_set_n {kind : Int} {ws : List Int} {rest : List UInt8} {n all m : Int} (h1 : ws.length = 8) (h2 : rest.length = 64) : (hashC kind ws rest n all).set 73 (.int .i64 m) = hashC kind ws rest m all := by
  rw [hashC, List.set_cons_succ, List.set_append_right _ _ (by simp [h1]), List.set_append_right _ _ (by simp [h1, bc_length, h2])]
  simp [h1, bc_length, h2, hashC]
theorem hashC_set_all {kind : Int} {ws : List Int} {rest : List UInt8} {n all m : Int} (h1 : ws.length = 8) (h2 : rest.length = 64) : (hashC kind ws rest n all).set 74 (.int .i64 m) = hashC kind ws rest n m := by
  rw [hashC, List.set_cons_succ, List.set_append_right _ _ (by simp [h1]), List.set_append_right _ _ (by simp [h1, bc_length, h2])]
  simp [h1, bc_length, h2, hashC]
theorem hashC_set_rest {kind : Int} {ws : List Int} {rest : List UInt8} {n all : Int} (h1 : ws.length = 8) (h2 : rest.length = 64) (j : Nat) (hj : j < 64) (c : UInt8) : (hashC kind ws rest n all).set (9 + j) (.int .u8 (c.toNat : Int)) = hashC kind ws (rest.set j c) n all := by
  rw [hashC, show 9 + j = (8 + j) + 1 by omega, List.set_cons_succ, List.set_append_right _ _ (by simp [h1]), List.length_map, h1, show 8 + j - 8 = j by omega, List.set_append_left _ _ (by rw [bc_length]; omega)]
  simp [hashC, bc, List.map_set]

end Go.Proofs.Ytaiakkifefedoaa
/- A hash: made, written to, its length. -/
namespace Go.Proofs.Ytaiakkifefedoaa
open Go.RowKit

/-- The words of a kind, ahead of all bytes. -/
def start (kind : Int) : List Int := if kind = 1 then [1732584193, 4023233417, 2562383102, 271733878, 3285377520, 0, 0, 0] else [1779033703, 3144134277, 1013904242, 2773480762, 1359893119, 2600822924, 528734635, 1541459225]
theorem start_length (kind : Int) : (start kind).length = 8 := by unfold start; split <;> rfl
def initH (kind : Int) : List Int × List UInt8 × Nat := (start kind, List.replicate 64 0, 0)
theorem goodH_init (kind : Int) : goodH (initH kind) := ⟨start_length kind, rfl, by show 0 < 64; omega⟩

/-- Nobody's hash. -/
def NoHash (w : World) (p : Option Addr) : Prop := p = none ∨ ∃ h, p = some ⟨h, 0, none⟩ ∧ w.cell? ⟨h, 0, none⟩ = some (.int .i64 0)
end Go.Proofs.Ytaiakkifefedoaa
/- The sum of a hash. -/
namespace Go.Proofs.Ytaiakkifefedoaa
open Go.RowKit

def lenC (all i : Nat) : UInt8 := UInt8.ofNat (all * 8 / 2 ^ (8 * i) % 256)
def tailH (all : Nat) : List UInt8 := [lenC all 7, lenC all 6, lenC all 5, lenC all 4, lenC all 3, lenC all 2, lenC all 1, lenC all 0]
def leftN (n : Nat) : Nat := (120 - n) % 64
def leftW (W : World) (g : Nat) : Nat := match W.cell? ⟨g, 73, none⟩ with | some (.int _ n) => leftN n.toNat | _ => 0
def padH (kind : Int) (s : List Int × List UInt8 × Nat) : List Int × List UInt8 × Nat := feedH kind (stepH kind s 128) (List.replicate (leftN (stepH kind s 128).2.2) 0)
def finH (kind : Int) (s : List Int × List UInt8 × Nat) (all : Nat) : List Int × List UInt8 × Nat := feedH kind (padH kind s) (tailH all)
def u8 (x : Int) : UInt8 := UInt8.ofNat (x % 256).toNat
def u4 (x : Int) : List UInt8 := [u8 (x / 16777216), u8 (x / 65536), u8 (x / 256), u8 x]
def outH (ws : List Int) : List UInt8 := ws.flatMap u4
def sumH (kind : Int) (s : List Int × List UInt8 × Nat) (all : Nat) : List UInt8 := outH (if kind = 1 then (finH kind s all).1.take 5 else (finH kind s all).1)

theorem goodH_pad (kind : Int) {s : List Int × List UInt8 × Nat} (h : goodH s) : goodH (padH kind s) := goodH_feed kind _ (goodH_step kind _ h)
theorem goodH_fin (kind : Int) {s : List Int × List UInt8 × Nat} (all : Nat) (h : goodH s) : goodH (finH kind s all) := goodH_feed kind _ (goodH_pad kind h)
theorem leftW_of {W : World} {g : Nat} {kind : Int} {s : List Int × List UInt8 × Nat} {all : Int} (B : BoxF W g (hashS kind s all)) (hg : goodH s) : leftW W g = leftN s.2.2 := by
  unfold leftW
  rw [B.at (hashC_n hg.1 hg.2.1)]
  rfl
theorem leftN_step (kind : Int) (s : List Int × List UInt8 × Nat) (c : UInt8) (hg : goodH s) (hn : s.2.2 ≠ 56) : leftN (stepH kind s c).2.2 + 1 = leftN s.2.2 := by
  have h := hg.2.2
  unfold stepH leftN
  split
  · dsimp only
    omega
  · dsimp only
    omega

theorem lenC_int (all i : Nat) : ((lenC all i).toNat : Int) = (all : Int) * 8 / ((2 ^ (8 * i) : Nat) : Int) % 256 := by
  unfold lenC
  rw [UInt8.toNat_ofNat', Nat.mod_mod, Int.natCast_emod, Int.natCast_ediv, Int.natCast_mul]
  rfl
theorem feedH_tail (kind : Int) (S : List Int × List UInt8 × Nat) (all k : Nat) (c : UInt8) (hk : (tailH all)[k]? = some c) : feedH kind S ((tailH all).take (k + 1)) = stepH kind (feedH kind S ((tailH all).take k)) c := by
  rw [List.take_add_one, hk, feedH_append]
  rfl

theorem hashC_word {kind : Int} {ws : List Int} {rest : List UInt8} {n all : Int} (h1 : ws.length = 8) (j : Nat) (hj : j < 8) : (hashC kind ws rest n all)[1 + j]? = some (.int .u32 (ws.getD j 0)) := by
  rw [hashC, show 1 + j = j + 1 by omega, List.getElem?_cons_succ, List.getElem?_append_left (by simp [h1]; omega), List.getElem?_map, List.getElem?_eq_getElem (by omega), List.getD_eq_getElem?_getD, List.getElem?_eq_getElem (by omega)]
  rfl
theorem u8_int (x : Int) : ((u8 x).toNat : Int) = x % 256 := by
  unfold u8
  rw [UInt8.toNat_ofNat']
  omega
theorem u4_cells (x : Int) : (#[.int .u8 (x / 16777216 % 256), .int .u8 (x / 65536 % 256), .int .u8 (x / 256 % 256), .int .u8 (x % 256)] : Array Value) = (bc (u4 x)).toArray := by
  show _ = (#[Value.int .u8 ((u8 (x / 16777216)).toNat : Int), Value.int .u8 ((u8 (x / 65536)).toNat : Int), Value.int .u8 ((u8 (x / 256)).toNat : Int), Value.int .u8 ((u8 x).toNat : Int)] : Array Value)
  rw [u8_int, u8_int, u8_int, u8_int]
theorem outH_length (l : List Int) : (outH l).length = 4 * l.length := by
  induction l with
  | nil => rfl
  | cons x l ih => rw [outH, List.flatMap_cons, List.length_append, ← outH, ih]; simp [u4]; omega
theorem outH_take (l : List Int) (j : Nat) (hj : j < l.length) : outH (l.take (j + 1)) = outH (l.take j) ++ u4 (l.getD j 0) := by
  rw [List.take_add_one, List.getElem?_eq_getElem hj, List.getD_eq_getElem?_getD, List.getElem?_eq_getElem hj, outH, List.flatMap_append]
  simp [outH]

/-- The cells of a hash that nobody made. -/
def hash0 : List Value := hashC 0 [0, 0, 0, 0, 0, 0, 0, 0] (List.replicate 64 0) 0 0

end Go.Proofs.Ytaiakkifefedoaa
/- The two sums of bytes. -/
namespace Go.Proofs.Ytaiakkifefedoaa
open Go.RowKit

/-- The hash of bytes. -/
def sumP (kind : Int) (l : List UInt8) : List UInt8 := sumH kind (feedH kind (initH kind) l) l.length

end Go.Proofs.Ytaiakkifefedoaa
/- The plain law of logins' responses: nonces, what is stored, responses, what is right. No program in sight. -/
namespace Go.Proofs.Ytaiakkifefedoaa
open Go.RowKit

/-- The error of a nonce. -/
def checkE (n : List UInt8) : Int := if n.length = 20 ∧ n.contains 0 = false ∧ n.contains 36 = false then 0 else 2
def nonceB (c : UInt8) : UInt8 := if (c.toNat % 254 + 1) < 36 then UInt8.ofNat (c.toNat % 254 + 1) else UInt8.ofNat (c.toNat % 254 + 2)
def nonceP (d : List UInt8) : List UInt8 := if d.length = 20 then d.map nonceB else []
def nonceE (d : List UInt8) : Int := if d.length = 20 then 0 else 2
def xorL (a b : List UInt8) : List UInt8 := List.zipWith (fun x y => x ^^^ y) a b
def storedP (kind : Int) (pw : List UInt8) : List UInt8 := if (kind = 1 ∨ kind = 2) ∧ pw ≠ [] then sumP kind (sumP kind pw) else []
def storedE (kind : Int) : Int := if kind = 1 ∨ kind = 2 then 0 else 2
def mixP (kind : Int) (nonce stored : List UInt8) : List UInt8 := if kind = 1 then sumP kind (nonce ++ stored) else sumP kind (stored ++ nonce)
def respP (kind : Int) (pw nonce : List UInt8) : List UInt8 := if checkE nonce = 0 ∧ pw ≠ [] then xorL (sumP kind pw) (mixP kind nonce (storedP kind pw)) else []
def sizeK (kind : Int) : Nat := if kind = 1 then 20 else if kind = 2 then 32 else 0
def rightP (kind : Int) (stored nonce resp : List UInt8) : Bool × Int :=
  if sizeK kind = 0 then (false, 2) else if checkE nonce ≠ 0 then (false, 2) else if stored = [] then (resp.isEmpty, 0) else if stored.length ≠ sizeK kind then (false, 5)
  else if resp.length ≠ sizeK kind then (false, 0) else (sumP kind (xorL resp (mixP kind nonce stored)) == stored, 0)

theorem checkE_or (n : List UInt8) : checkE n = 0 ∨ checkE n = 2 := by unfold checkE; split <;> simp
theorem checkE_len {n : List UInt8} (h : checkE n = 0) : n.length = 20 := by
  unfold checkE at h
  split at h
  · rename_i hh; exact hh.1
  · cases h
theorem sumP_len (kind : Int) (l : List UInt8) (hk : kind = 1 ∨ kind = 2) : (sumP kind l).length = sizeK kind := by
  have h := (goodH_fin kind (s := feedH kind (initH kind) l) l.length (goodH_feed kind l (goodH_init kind))).1
  unfold sumP sumH
  rw [outH_length]
  rcases hk with rfl | rfl
  · rw [if_pos rfl, List.length_take]; simp [sizeK]; omega
  · rw [if_neg (by decide)]; simp [sizeK]; omega
theorem sizeK_le (kind : Int) : sizeK kind ≤ 32 := by unfold sizeK; split <;> (try split) <;> omega
theorem mixP_len (kind : Int) (a b : List UInt8) (hk : kind = 1 ∨ kind = 2) : (mixP kind a b).length = sizeK kind := by
  unfold mixP; split <;> exact sumP_len kind _ hk
theorem xorL_length (a b : List UInt8) : (xorL a b).length = min a.length b.length := by simp [xorL]
theorem storedP_le (kind : Int) (pw : List UInt8) : (storedP kind pw).length ≤ 32 := by
  unfold storedP
  split
  · rename_i h; rw [sumP_len kind _ h.1]; exact sizeK_le kind
  · simp
theorem xorL_take (a b : List UInt8) (k : Nat) (h1 : k < a.length) (h2 : k < b.length) : xorL (a.take (k + 1)) (b.take (k + 1)) = xorL (a.take k) (b.take k) ++ [a.getD k 0 ^^^ b.getD k 0] := by
  unfold xorL
  rw [List.take_add_one, List.take_add_one, List.getElem?_eq_getElem h1, List.getElem?_eq_getElem h2, List.getD_eq_getElem?_getD, List.getD_eq_getElem?_getD, List.getElem?_eq_getElem h1, List.getElem?_eq_getElem h2]
  simp only [Option.toList_some, Option.getD_some]
  rw [List.zipWith_append (by rw [List.length_take, List.length_take]; omega)]
  rfl
theorem xorL_self : ∀ a b : List UInt8, a.length ≤ b.length → xorL (xorL a b) b = a
  | [], b, _ => rfl
  | x :: a, [], h => by simp at h
  | x :: a, y :: b, h => by
    have ih := xorL_self a b (by simpa using h)
    unfold xorL at ih ⊢
    simp only [List.zipWith_cons_cons, ih, List.cons.injEq, and_true]
    rw [UInt8.xor_assoc, UInt8.xor_self, UInt8.xor_zero]

/-- What a password answers is right for what is stored of it. -/
theorem right_resp (kind : Int) (pw nonce : List UInt8) (hk : kind = 1 ∨ kind = 2) (hn : checkE nonce = 0) : rightP kind (storedP kind pw) nonce (respP kind pw nonce) = (true, 0) := by
  have h0 : sizeK kind ≠ 0 := by rcases hk with rfl | rfl <;> decide
  by_cases hp : pw = []
  · subst hp
    have e1 : storedP kind [] = [] := by simp [storedP]
    have e2 : respP kind [] nonce = [] := by simp [respP]
    rw [e1, e2]
    unfold rightP
    rw [if_neg h0, if_neg (by simpa using hn), if_pos rfl]
    rfl
  · have hs : storedP kind pw = sumP kind (sumP kind pw) := by unfold storedP; rw [if_pos ⟨hk, hp⟩]
    have hl : (storedP kind pw).length = sizeK kind := by rw [hs]; exact sumP_len kind _ hk
    have hx : (xorL (sumP kind pw) (mixP kind nonce (storedP kind pw))).length = sizeK kind := by rw [xorL_length, sumP_len kind _ hk, mixP_len kind _ _ hk]; omega
    have e2 : respP kind pw nonce = xorL (sumP kind pw) (mixP kind nonce (storedP kind pw)) := by unfold respP; rw [if_pos ⟨hn, hp⟩]
    rw [e2]
    unfold rightP
    rw [if_neg h0, if_neg (by simpa using hn), if_neg (by intro e; rw [e] at hl; exact h0 hl.symm), if_neg (by simpa using hl), if_neg (by simpa using hx), xorL_self _ _ (by rw [sumP_len kind _ hk, mixP_len kind _ _ hk]; omega), hs]
    simp

/-- Where a byte stands first, if anywhere. -/
theorem idx_has (c : UInt8) : ∀ l : List UInt8, (l.contains c = true → 0 ≤ Lib.indexByte l c) ∧ (l.contains c = false → Lib.indexByte l c = -1)
  | [] => by simp [Lib.indexByte]
  | a :: t => by
    have ih := idx_has c t
    unfold Lib.indexByte
    by_cases ha : a = c
    · subst ha; simp
    · have h1 : (a == c) = false := by simpa using ha
      have h3 : (a :: t).contains c = t.contains c := by
        rw [List.contains_cons]
        have : (c == a) = false := by simpa using Ne.symm ha
        rw [this, Bool.false_or]
      rw [h1, h3]
      by_cases hc : t.contains c = true
      · have h2 := ih.1 hc
        have : (Lib.indexByte t c == -1) = false := by rw [beq_eq_false_iff_ne]; omega
        rw [hc, this]
        exact ⟨fun _ => by show 0 ≤ Lib.indexByte t c + 1; omega, (fun h => by cases h)⟩
      · have hc' : t.contains c = false := by simpa using hc
        rw [hc', ih.2 hc']
        exact ⟨(fun h => by cases h), fun _ => rfl⟩
theorem nonceB_ne (c : UInt8) : nonceB c ≠ 0 ∧ nonceB c ≠ 36 := by
  unfold nonceB
  constructor <;> (split <;> (intro e; have := congrArg UInt8.toNat e; rw [UInt8.toNat_ofNat'] at this; simp at this; omega))
theorem nonceP_check {d : List UInt8} (h : d.length = 20) : checkE (nonceP d) = 0 := by
  unfold checkE nonceP
  rw [if_pos h, if_pos]
  refine ⟨by simpa using h, ?_, ?_⟩
  · simp only [List.contains_eq_mem, List.mem_map, decide_eq_false_iff_not, not_exists, not_and]
    intro x _ e; exact (nonceB_ne x).1 e
  · simp only [List.contains_eq_mem, List.mem_map, decide_eq_false_iff_not, not_exists, not_and]
    intro x _ e; exact (nonceB_ne x).2 e
theorem nonceP_take (d : List UInt8) (k : Nat) (h : k < d.length) : (d.take (k + 1)).map nonceB = (d.take k).map nonceB ++ [nonceB (d.getD k 0)] := by
  rw [List.take_add_one, List.getElem?_eq_getElem h, List.getD_eq_getElem?_getD, List.getElem?_eq_getElem h, List.map_append]
  rfl
end Go.Proofs.Ytaiakkifefedoaa
/- What an argument that came in as a slice of bytes is for the walks: it reads as a list. -/
namespace Go.Proofs.Ytaiakkifefedoaa
open Go.RowKit

theorem rd_of {w : World} {a : Option Addr} {len cap : Nat} {zs : List Int}
    (h : (a = none ∧ len = 0 ∧ cap = 0 ∧ zs = []) ∨ ∃ x, a = some x ∧ len ≤ cap ∧ cap ≤ maxLen ∧ zs.length = cap ∧ (∀ i, i < zs.length → w.cell? (x.add i) = some (.int .u8 (zs.getD i 0))) ∧ ∀ n ∈ zs, (Lit.int .u8 n).wf = true) :
    ∃ l : List UInt8, Rd w (.slice a len cap) l ∧ l.length = len := by
  rcases h with ⟨rfl, rfl, rfl, rfl⟩ | ⟨x, rfl, hl, hm, hz, hc, hw⟩
  · exact ⟨[], Rd.nil w, rfl⟩
  · have hlen : ((zs.take len).map fun n => UInt8.ofNat n.toNat).length = len := by rw [List.length_map, List.length_take, hz, Nat.min_eq_left hl]
    refine ⟨(zs.take len).map fun n => UInt8.ofNat n.toNat, ⟨some x, cap, by rw [hlen], by rw [hlen]; exact hl, hm, (fun h => by cases h), fun hne => ?_⟩, hlen⟩
    have hpos : 0 < len := by
      rcases Nat.eq_zero_or_pos len with h0 | h0
      · exact absurd (List.eq_nil_of_length_eq_zero (by rw [hlen]; exact h0)) hne
      · exact h0
    have h0 := hc 0 (by omega)
    obtain ⟨b, o, sp⟩ := x
    have hsp : sp = none := by
      cases sp with
      | none => rfl
      | some s =>
        have e : (⟨b, o, some s⟩ : Addr).add 0 = ⟨b, o, some s⟩ := rfl
        rw [e] at h0
        unfold World.cell? at h0
        split at h0 <;> simp at h0
    subst hsp
    refine ⟨b, o, rfl, fun j hj => ?_⟩
    rw [hlen] at hj
    have h1 := hc j (by omega)
    rw [addrk] at h1
    rw [h1]
    have hjz : j < zs.length := by omega
    have hwf := hw zs[j] (List.getElem_mem hjz)
    have hb : 0 ≤ zs[j] ∧ zs[j] ≤ 255 := by
      simp [Lit.wf, IntKind.min, IntKind.max, IntKind.signed, IntKind.bits] at hwf
      omega
    have e1 : zs.getD j 0 = zs[j] := by rw [List.getD_eq_getElem?_getD, List.getElem?_eq_getElem hjz]; rfl
    have e2 : ((zs.take len).map fun n => UInt8.ofNat n.toNat).getD j 0 = UInt8.ofNat zs[j].toNat := by
      rw [List.getD_eq_getElem?_getD, List.getElem?_map, List.getElem?_take, if_pos hj, List.getElem?_eq_getElem hjz]; rfl
    rw [e1, e2]
    congr 2
    rw [UInt8.toNat_ofNat']
    omega

theorem wf_u64 {x : Int} (h : (Lit.int .u64 x).wf = true) : 0 ≤ x ∧ x < 18446744073709551616 := by
  simp [Lit.wf, IntKind.min, IntKind.max, IntKind.signed, IntKind.bits] at h
  omega
theorem wf_u32 {x : Int} (h : (Lit.int .u32 x).wf = true) : 0 ≤ x ∧ x < 4294967296 := by
  simp [Lit.wf, IntKind.min, IntKind.max, IntKind.signed, IntKind.bits] at h
  omega
theorem wf_u16 {x : Int} (h : (Lit.int .u16 x).wf = true) : 0 ≤ x ∧ x < 65536 := by
  simp [Lit.wf, IntKind.min, IntKind.max, IntKind.signed, IntKind.bits] at h
  omega
theorem wf_i64 {x : Int} (h : (Lit.int .i64 x).wf = true) : -9223372036854775808 ≤ x ∧ x ≤ 9223372036854775807 := by
  simp [Lit.wf, IntKind.min, IntKind.max, IntKind.signed, IntKind.bits] at h
  omega
end Go.Proofs.Ytaiakkifefedoaa
/- What the arguments that came in are for the walks: bytes, numbers and texts that lie in memory, one by one. -/
namespace Go.Proofs.Ytaiakkifefedoaa
open Go.ChangeShapes Go.WideShapes Go.ChangeAt Go.RowKit

section
variable {H : Type} {enc : TypeId × Value → H} {P : Program} {w : World} {base : Nat} {spare : Nat → Bool} {held : Bool} {r : Reach} {b0 : Nat}

theorem addr_spot {w : World} {x : Addr} {u : Value} (h : w.cell? x = some u) : ∃ b o, x = ⟨b, o, none⟩ := by
  obtain ⟨b, o, sp⟩ := x
  cases sp with
  | none => exact ⟨b, o, rfl⟩
  | some s =>
    unfold World.cell? at h
    split at h <;> simp at h

theorem cells_ints {t e : TypeId} {k : IntKind} {v : Value} {d : DataW H} {p : List MemPlace} (ht : P.underlying t = some (.slice e)) (he : P.underlying e = some (.int k)) (hc : P.cellsOf e = 1)
    (hv : Value.okWide P w r b0 t v) (h : DataW.Trod enc P w 0 (fun _ => true) true t v d p) :
    ∃ xs : List Int, Cells w v xs.length (fun i => .int k (xs.getD i 0)) ∧ ∀ i, i < xs.length → (Lit.int k (xs.getD i 0)).wf = true := by
  obtain ⟨a, len, cap, rfl⟩ := okWide_slice ht hv
  obtain ⟨fuel, hf⟩ := h
  rcases open_ints ht he hc hf with ⟨hcs, _⟩ | ⟨x, l, c, zs, hcs, _, hl, hm, hz, _, hcell, hwz⟩
  · simp [Value.cells] at hcs
    obtain ⟨rfl, rfl, rfl⟩ := hcs
    exact ⟨[], ⟨none, 0, rfl, Nat.le_refl _, by unfold maxLen; simp, fun h => by simp at h⟩, fun i hi => by simp at hi⟩
  · simp [Value.cells] at hcs
    obtain ⟨rfl, rfl, rfl⟩ := hcs
    simp only [if_true] at hz
    have hlen : (zs.take len).length = len := by rw [List.length_take]; omega
    have hget : ∀ i, i < len → (zs.take len).getD i 0 = zs.getD i 0 := fun i hi => by
      rw [List.getD_eq_getElem?_getD, List.getD_eq_getElem?_getD, List.getElem?_take, if_pos hi]
    refine ⟨zs.take len, ⟨some x, cap, by rw [hlen], by rw [hlen]; exact hl, hm, fun h0 => ?_⟩, fun i hi => ?_⟩
    · rw [hlen] at h0
      have h1 := hcell 0 (by omega)
      obtain ⟨b, o, rfl⟩ := addr_spot (x := x) h1
      refine ⟨b, o, rfl, fun j hj => ?_⟩
      rw [hlen] at hj
      simp only [hget j hj]
      rw [← addrk]
      exact hcell j (by omega)
    · rw [hlen] at hi
      rw [hget i hi, List.getD_eq_getElem?_getD, List.getElem?_eq_getElem (by omega)]
      exact hwz _ (List.getElem_mem _)

theorem cells_strings {t e : TypeId} {v : Value} {d : DataW H} {p : List MemPlace} (ht : P.underlying t = some (.slice e)) (he : P.underlying e = some .string) (hc : P.cellsOf e = 1)
    (hv : Value.okWide P w r b0 t v) (h : DataW.Trod enc P w 0 (fun _ => true) true t v d p) :
    ∃ ss : List ByteArray, Cells w v ss.length (fun i => .string (ss.getD i ByteArray.empty)) ∧ ∀ i, i < ss.length → (ss.getD i ByteArray.empty).size ≤ maxLen := by
  obtain ⟨a, len, cap, rfl⟩ := okWide_slice ht hv
  obtain ⟨fuel, hf⟩ := h
  rcases open_strings ht he hc hf with ⟨hcs, _⟩ | ⟨x, l, c, zs, hcs, _, hl, hm, hz, _, hcell, hwz⟩
  · simp [Value.cells] at hcs
    obtain ⟨rfl, rfl, rfl⟩ := hcs
    exact ⟨[], ⟨none, 0, rfl, Nat.le_refl _, by unfold maxLen; simp, fun h => by simp at h⟩, fun i hi => by simp at hi⟩
  · simp [Value.cells] at hcs
    obtain ⟨rfl, rfl, rfl⟩ := hcs
    simp only [if_true] at hz
    have hlen : (zs.take len).length = len := by rw [List.length_take]; omega
    have hget : ∀ i, i < len → (zs.take len).getD i ByteArray.empty = zs.getD i ByteArray.empty := fun i hi => by
      rw [List.getD_eq_getElem?_getD, List.getD_eq_getElem?_getD, List.getElem?_take, if_pos hi]
    refine ⟨zs.take len, ⟨some x, cap, by rw [hlen], by rw [hlen]; exact hl, hm, fun h0 => ?_⟩, fun i hi => ?_⟩
    · rw [hlen] at h0
      have h1 := hcell 0 (by omega)
      obtain ⟨b, o, rfl⟩ := addr_spot (x := x) h1
      refine ⟨b, o, rfl, fun j hj => ?_⟩
      rw [hlen] at hj
      simp only [hget j hj]
      rw [← addrk]
      exact hcell j (by omega)
    · rw [hlen] at hi
      rw [hget i hi, List.getD_eq_getElem?_getD, List.getElem?_eq_getElem (by omega)]
      exact hwz _ (List.getElem_mem _)

/-- A slice of bytes that came in. -/
theorem rd_arg {v : Value} {d : DataW H} {p : List MemPlace} (hT : BT P) (hc : P.cellsOf 5 = 1)
    (hv : Value.okWide P w r b0 22 v) (h : DataW.Trod enc P w 0 (fun _ => true) true 22 v d p) : ∃ l : List UInt8, Rd w v l := by
  obtain ⟨a, len, cap, rfl⟩ := okWide_slice hT.sl hv
  obtain ⟨fuel, hf⟩ := h
  rcases open_ints hT.sl hT.el hc hf with ⟨hcs, _⟩ | ⟨x, l, c, zs, hcs, _, hl, hm, hz, _, hcell, hwz⟩
  · simp [Value.cells] at hcs
    obtain ⟨rfl, rfl, rfl⟩ := hcs
    exact ⟨[], Rd.nil w⟩
  · simp [Value.cells] at hcs
    obtain ⟨rfl, rfl, rfl⟩ := hcs
    obtain ⟨l, hl, _⟩ := rd_of (w := w) (a := some x) (len := len) (cap := cap) (zs := zs) (.inr ⟨x, rfl, hl, hm, by simpa using hz, hcell, hwz⟩)
    exact ⟨l, hl⟩
end
end Go.Proofs.Ytaiakkifefedoaa
/- The reach of what came in: how long its lists are at most; slices of slices of bytes. -/
namespace Go.Proofs.Ytaiakkifefedoaa
open Go.ChangeShapes Go.WideShapes Go.ChangeAt Go.RowKit

/-- All that a datum holds lies within the reach. -/
def Sz {H : Type} (P : Program) (t : TypeId) (d : DataW H) : Prop := ∀ n ∈ d.weights P t, n ≤ reachBytes
theorem reach_eq : reachBytes = 140737488351232 := rfl

section
variable {H : Type} {enc : TypeId × Value → H} {P : Program} {w : World} {r : Reach} {b0 : Nat}

theorem sz_arg {ts : List TypeId} {ds : List (DataW H)} (h : (DataW.weightsEach P ts ds).all (· ≤ reachBytes) = true) (j : Nat) {t : TypeId} {d : DataW H} (ht : ts[j]? = some t) (hd : ds[j]? = some d) : Sz P t d := fun n hn => by
  simpa using List.all_eq_true.1 h _ (DataW.weights_mem_each ht hd n hn)
theorem weights_all {e : TypeId} {n : Nat} {d : DataW H} (hn : n ∈ d.weights P e) : ∀ {l : List (DataW H)}, d ∈ l → n ∈ DataW.weightsAll P e l
  | a :: l, h => by
    rw [DataW.weightsAll, List.mem_append]
    rcases List.mem_cons.1 h with rfl | h
    · exact .inl hn
    · exact .inr (weights_all hn h)
theorem sz_elem {t e : TypeId} {elems spare : List (DataW H)} (hu : P.underlying t = some (.slice e)) (h : Sz P t (.slice elems spare)) {d : DataW H} (hd : d ∈ elems) : Sz P e d := fun n hn =>
  h n (by simp only [DataW.weights, hu, List.mem_cons, List.mem_append]; exact .inr (.inl (weights_all hn hd)))
theorem sz_len {t e : TypeId} {elems spare : List (DataW H)} (hu : P.underlying t = some (.slice e)) (h : Sz P t (.slice elems spare)) : (elems.length + spare.length) * P.bytesOf e ≤ reachBytes :=
  h _ (by simp [DataW.weights, hu])

/-- A slice of bytes that came in, and how long it is at most. -/
theorem leaf_rdz (hT : BT P) (hc : P.cellsOf 5 = 1) (hb : P.bytesOf 5 = 1) {fuel : Nat} {cs : List Value} {d : DataW H} {p : List MemPlace} (h : DataW.trod enc P w 0 (fun _ => true) true fuel 22 cs = some (d, p)) (hs : Sz P 22 d) :
    ∃ v l, cs = [v] ∧ Rd w v l ∧ l.length ≤ 140737488351232 := by
  rcases open_ints hT.sl hT.el hc h with ⟨hcs, _⟩ | ⟨x, l, c, zs, hcs, _, hl, hm, hz, hx, hcell, hwz⟩
  · exact ⟨_, [], hcs, Rd.nil w, by simp⟩
  · obtain ⟨l', hl', hle⟩ := rd_of (w := w) (a := some x) (len := l) (cap := c) (zs := zs) (.inr ⟨x, rfl, hl, hm, by simpa using hz, hcell, hwz⟩)
    refine ⟨_, l', hcs, hl', ?_⟩
    have := congrArg Prod.fst hx
    dsimp only at this
    subst this
    have h2 := sz_len hT.sl hs
    rw [hb, reach_eq] at h2
    simp [lits] at h2 hz
    omega
theorem rd_argz {v : Value} {d : DataW H} {p : List MemPlace} (hT : BT P) (hc : P.cellsOf 5 = 1) (hb : P.bytesOf 5 = 1)
    (hv : Value.okWide P w r b0 22 v) (h : DataW.Trod enc P w 0 (fun _ => true) true 22 v d p) (hs : Sz P 22 d) : ∃ l : List UInt8, Rd w v l ∧ l.length ≤ 140737488351232 := by
  obtain ⟨a, len, cap, rfl⟩ := okWide_slice hT.sl hv
  obtain ⟨fuel, hf⟩ := h
  obtain ⟨v', l, hcs, hr, hl⟩ := leaf_rdz hT hc hb hf hs
  simp [Value.cells] at hcs
  subst hcs
  exact ⟨l, hr, hl⟩

/-- A slice of slices of bytes: each reads as a list. -/
def Lists (w : World) (v : Value) (ls : List (List UInt8)) : Prop :=
  ∃ (A : Option Addr) (cap : Nat), v = .slice A ls.length cap ∧ ls.length ≤ cap ∧ cap ≤ maxLen ∧
    (ls ≠ [] → ∃ b o, A = some ⟨b, o, none⟩ ∧ ∀ j, j < ls.length → ∃ u, w.cell? ⟨b, o + j, none⟩ = some u ∧ Rd w u (ls.getD j []))
theorem Lists.ext {w w' : World} {v : Value} {ls : List (List UInt8)} (h : Lists w v ls) (k : Ext w w') : Lists w' v ls := by
  obtain ⟨A, cap, h1, h2, h3, h4⟩ := h
  refine ⟨A, cap, h1, h2, h3, fun hn => ?_⟩
  obtain ⟨b, o, hA, hc⟩ := h4 hn
  refine ⟨b, o, hA, fun j hj => ?_⟩
  obtain ⟨u, hu, hr⟩ := hc j hj
  exact ⟨u, k.cell hu, hr.ext k⟩

end
end Go.Proofs.Ytaiakkifefedoaa
/- The program's responses: nonces, a hash of several lists. -/
namespace Go.Proofs.Ytaiakkifefedoaa
open Go.RowKit

theorem idx_v (w : World) (v : Value) (l : List UInt8) (c : UInt8) (x r : Int) (hr : Rd w v l) (hx : x = (c.toNat : Int)) (h : Lib.indexByte l c = r) :
    Calls Try.prog 46 #[v, .int .u8 x] w fun e w' => e = .returned (.int .i64 r) ∧ w = w' := by
  subst hx; subst h
  have := idx_b w v l (c.toNat : Int) hr
  have e : ((c.toNat : Int)).toNat.toUInt8 = c := by simp
  rw [e] at this
  exact this

set_option maxRecDepth 100000 in
theorem check_c (w : World) (v : Value) (l : List UInt8) (x : Int) (hr : Rd w v l) (hx : checkE l = x) :
    Calls Try.prog 26 #[v] w fun e w' => e = .returned (.int .i64 x) ∧ w = w' := by
  have HR := Lib.hid hr
  obtain ⟨A, cap, rfl, hle, hm, _, _⟩ := id hr
  unfold maxLen at hm
  clear hr
  by_cases h20 : l.length = 20
  · have hb : ((l.length : Int) != 20) = false := by simp [h20]
    by_cases hc0 : l.contains 0 = true
    · have h0 := (idx_has 0 l).1 hc0
      obtain rfl : x = 2 := by rw [← hx]; unfold checkE; rw [if_neg]; simp only [hc0]; simp
      generalize hq : Lib.indexByte l 0 = q at h0
      have HQ := Lib.hid hq
      have hd : decide (0 ≤ q) = true := by simpa using h0
      clear hq hx h20 hc0
      go_enter Try.func26, Try.ntmps26
      go_wp2_with (go_at_call 46; refine (idx_v _ _ l 0 _ q HR.out rfl HQ.out).mono ?_; rintro e w1 ⟨rfl, rfl⟩)
      go_ret
      exact ⟨rfl, rfl⟩
    · have hc0' : l.contains 0 = false := by simpa using hc0
      have h0 := (idx_has 0 l).2 hc0'
      have H0 := Lib.hid h0
      clear h0
      by_cases hc1 : l.contains 36 = true
      · have h1 := (idx_has 36 l).1 hc1
        obtain rfl : x = 2 := by rw [← hx]; unfold checkE; rw [if_neg]; simp only [hc1]; simp
        generalize hq : Lib.indexByte l 36 = q at h1
        have HQ := Lib.hid hq
        have hd : decide (0 ≤ q) = true := by simpa using h1
        clear hq hx h20 hc0 hc0' hc1
        go_enter Try.func26, Try.ntmps26
        go_wp2_with (first
          | (go_at_call 46; (with_reducible show Calls _ _ #[_, Value.int .u8 0] _ _); refine (idx_v _ _ l 0 _ (-1) HR.out rfl H0.out).mono ?_; rintro e w1 ⟨rfl, rfl⟩)
          | (go_at_call 46; refine (idx_v _ _ l 36 _ q HR.out rfl HQ.out).mono ?_; rintro e w1 ⟨rfl, rfl⟩))
        go_ret
        exact ⟨rfl, rfl⟩
      · have hc1' : l.contains 36 = false := by simpa using hc1
        have h1 := (idx_has 36 l).2 hc1'
        have H1 := Lib.hid h1
        obtain rfl : x = 0 := by rw [← hx]; unfold checkE; rw [if_pos ⟨h20, hc0', hc1'⟩]
        clear h1 hx h20 hc0 hc0' hc1 hc1'
        go_enter Try.func26, Try.ntmps26
        go_wp2_with (first
          | (go_at_call 46; (with_reducible show Calls _ _ #[_, Value.int .u8 0] _ _); refine (idx_v _ _ l 0 _ (-1) HR.out rfl H0.out).mono ?_; rintro e w1 ⟨rfl, rfl⟩)
          | (go_at_call 46; refine (idx_v _ _ l 36 _ (-1) HR.out rfl H1.out).mono ?_; rintro e w1 ⟨rfl, rfl⟩))
        go_ret
        exact ⟨rfl, rfl⟩
  · have hb : ((l.length : Int) != 20) = true := by simp; omega
    obtain rfl : x = 2 := by rw [← hx]; unfold checkE; rw [if_neg]; intro h; exact h20 h.1
    clear hx
    go_enter Try.func26, Try.ntmps26
    go_wp2_with fail
    go_ret
    exact ⟨rfl, rfl⟩

/-- A slice that reads as a list, at an index. -/
theorem Rd.at_ {w : World} {A : Option Addr} {n cap : Nat} {l : List UInt8} (h : Rd w (.slice A n cap) l) (hn : 0 < n) : ∃ b o, A = some ⟨b, o, none⟩ ∧ n = l.length ∧ ∀ k, k < n → w.cell? ⟨b, o + k, none⟩ = some (.int .u8 ((l.getD k 0).toNat : Int)) := by
  obtain ⟨A', cap', hv, _, _, _, h4⟩ := h
  injection hv with e1 e2 e3
  subst e1 e2
  obtain ⟨b, o, rfl, hc⟩ := h4 (by intro e; subst e; simp at hn)
  exact ⟨b, o, rfl, rfl, hc⟩

theorem nonceB_lo (c : UInt8) (y : Int) (hy : (c.toNat : Int) % 254 = y) (h : y + 1 < 36) : [UInt8.ofNat (y + 1).toNat] = [nonceB c] := by
  unfold nonceB
  rw [if_pos (by omega)]
  congr 2
  omega
theorem nonceB_hi (c : UInt8) (y : Int) (hy : (c.toNat : Int) % 254 = y) (h : ¬ y + 1 < 36) : [UInt8.ofNat (y + 1 + 1).toNat] = [nonceB c] := by
  unfold nonceB
  rw [if_neg (by omega)]
  congr 2
  omega

section
variable {P : Program} {ops : Array Oper} {rest : List Oper} {o : Oper} {a : Act} {w : World} {Q : Exit → Act → World → Prop}
/-- 'make([]byte, n)'. -/
theorem wpl_zeros (hT : BT P) (n : Nat) (hn : n ≤ 100000000)
    (hgd : o.guard = none) (x c : Operand) (kl kc : IntKind) (ho : o.op = .makeSlice 22 x c) (hx : a.eval x = .int kl (n : Int)) (hc : a.eval c = .int kc (n : Int))
    (h : ∀ v' w', Own w' w.heap.size v' (List.replicate n 0) → Ext w w' → wpList P ops Q rest (a.put o.dst v') w') : wpList P ops Q (o :: rest) a w := by
  obtain ⟨i, hi, hz, hs1, hb1⟩ := hT.info
  obtain ⟨w', hrun, h1, h2⟩ := run_make_full (P := P) w w.heap.size 22 5 i (.int .u8 0) 1 hT.sl hi hz hs1 kl kc n (by rw [hb1]; omega) (by unfold maxLen; omega) (Nat.le_refl _)
  refine wpl_val hgd (v := .slice (some ⟨w.heap.size, 0, none⟩) n n) (w' := w') ?_ (h _ _ ?_ ((Below.refl _ w).grown h2 (Nat.le_refl _) (fun k hk => by cases hk)))
  · unfold execOp
    simp only [ho, hx, hc, Sem.run_bind, Sem.run_pure, Result.andThen_ok, hrun]
  · have e : (madeCells (Value.int .u8 0).cells (n * 1)).toList = bc (List.replicate n 0) := by
      show (madeCells #[Value.int .u8 0] (n * 1)).toList = _
      rw [toList_madeCells_one]
      simp [bc]
    rw [e] at h1
    unfold Own
    rw [List.length_replicate]
    exact h1
end
/-- An owned slice that is not empty: its block's cells may be written. -/
theorem Own.cellsF {w : World} {base : Nat} {v : Value} {l : List UInt8} (h : Own w base v l) (hl : l ≠ []) : ∃ g cap, v = .slice (some ⟨g, 0, none⟩) l.length cap ∧ l.length ≤ cap ∧ cap ≤ maxLen ∧ base ≤ g ∧ BoxF w g (bc l) := by
  have hcells := fun g hg => World.ownsRow.cells h (g := g) hg
  rcases h.2 with ⟨rfl, h0⟩ | ⟨g, cap, cur, rfl, hb, hg, hn, hm, hs, ht⟩
  · exact absurd (List.eq_nil_of_length_eq_zero h0) hl
  · refine ⟨g, cap, rfl, hn, hm, hb, fun j hj => ?_, fun j hj => ?_, ?_⟩
    · rw [bc_length] at hj
      have := hcells g rfl j _ (bc_get l j hj)
      rw [addr0] at this
      rw [this, List.getD_eq_getElem?_getD (l := bc l), bc_get l j hj]
      rfl
    · simp [World.frozen?, hg]
    · rcases Nat.lt_or_ge g w.heap.size with h | h
      · exact h
      · rw [Array.getElem?_eq_none h] at hg; cases hg
theorem BoxF.rd {w : World} {g n cap : Nat} {l : List UInt8} (B : BoxF w g (bc l)) (hn : n = l.length) (h1 : n ≤ cap) (h2 : cap ≤ maxLen) : Rd w (.slice (some ⟨g, 0, none⟩) n cap) l := by
  subst hn
  refine ⟨_, cap, rfl, h1, h2, (fun h => by cases h), fun _ => ⟨g, 0, rfl, fun j hj => ?_⟩⟩
  rw [Nat.zero_add]
  exact B.at (bc_get l j hj)

/-- The first k bytes are joined, the others are noughts still. -/
def xorK (a b : List UInt8) (k : Nat) : List UInt8 := xorL (a.take k) (b.take k) ++ List.replicate (a.length - k) 0
theorem xorK_length (a b : List UInt8) (k : Nat) (h : a.length ≤ b.length) (hk : k ≤ a.length) : (xorK a b k).length = a.length := by
  unfold xorK; rw [List.length_append, xorL_length, List.length_take, List.length_take, List.length_replicate]; omega
theorem xorK_set (a b : List UInt8) (k : Nat) (h : a.length ≤ b.length) (hk : k < a.length) : (xorK a b k).set k (a.getD k 0 ^^^ b.getD k 0) = xorK a b (k + 1) := by
  have hl : (xorL (a.take k) (b.take k)).length = k := by rw [xorL_length, List.length_take, List.length_take]; omega
  unfold xorK
  rw [xorL_take a b k hk (by omega), List.set_append_right _ _ (by omega), hl, Nat.sub_self]
  obtain ⟨q, hq⟩ : ∃ q, a.length - k = q + 1 := ⟨a.length - k - 1, by omega⟩
  rw [hq, List.replicate_succ, List.set_cons_zero, show a.length - (k + 1) = q by omega, List.append_assoc]
  rfl
theorem xorK_all (a b : List UInt8) (h : a.length ≤ b.length) : xorK a b a.length = xorL a b := by
  unfold xorK
  rw [Nat.sub_self, List.replicate_zero, List.append_nil, List.take_length]
  unfold xorL
  induction a generalizing b with
  | nil => rfl
  | cons x a ih =>
    cases b with
    | nil => simp at h
    | cons y b => simp only [List.length_cons, List.take_succ_cons, List.zipWith_cons_cons]; rw [ih b (by simpa using h)]

theorem bc_set (l : List UInt8) (k : Nat) (c : UInt8) (x : Int) (hx : x = (c.toNat : Int)) : (bc l).set k (.int .u8 x) = bc (l.set k c) := by
  subst hx
  simp [bc, List.map_set]

end Go.Proofs.Ytaiakkifefedoaa
/- The program's responses: a hash of several lists, what is stored, responses, what is right. -/
namespace Go.Proofs.Ytaiakkifefedoaa
open Go.RowKit

theorem Lists.at_ {w : World} {A : Option Addr} {n cap : Nat} {ls : List (List UInt8)} (h : Lists w (.slice A n cap) ls) (hn : 0 < n) : ∃ b o, A = some ⟨b, o, none⟩ ∧ n = ls.length ∧ ∀ j, j < n → ∃ u, w.cell? ⟨b, o + j, none⟩ = some u ∧ Rd w u (ls.getD j []) := by
  obtain ⟨A', cap', hv, _, _, h4⟩ := h
  injection hv with e1 e2 e3
  subst e1 e2
  obtain ⟨b, o, rfl, hc⟩ := h4 (by intro e; subst e; simp at hn)
  exact ⟨b, o, rfl, rfl, hc⟩
theorem lists1 (w : World) (v : Value) (l : List UInt8) (hr : Rd w v l) (t : TypeId) (g : Nat) (hg : g = w.heap.size) : Lists (w.alloc (.cells #[v] t)) (.slice (some ⟨g, 0, none⟩) 1 1) [l] := by
  subst hg
  refine ⟨_, 1, rfl, Nat.le_refl _, by unfold maxLen; omega, fun _ => ⟨_, 0, rfl, fun j hj => ?_⟩⟩
  obtain rfl : j = 0 := by simp at hj; exact hj
  exact ⟨v, (Box.new w [v] t) 0 (by simp), hr.ext ((Ext.refl w).alloc _)⟩
theorem lists2 (w : World) (v u : Value) (l m : List UInt8) (hr : Rd w v l) (hs : Rd w u m) (t : TypeId) (g : Nat) (hg : g = w.heap.size) : Lists (w.alloc (.cells #[v, u] t)) (.slice (some ⟨g, 0, none⟩) 2 2) [l, m] := by
  subst hg
  refine ⟨_, 2, rfl, Nat.le_refl _, by unfold maxLen; omega, fun _ => ⟨_, 0, rfl, fun j hj => ?_⟩⟩
  have h2 : j = 0 ∨ j = 1 := by simp at hj; omega
  rcases h2 with rfl | rfl
  · exact ⟨v, (Box.new w [v, u] t) 0 (by simp), hr.ext ((Ext.refl w).alloc _)⟩
  · exact ⟨u, (Box.new w [v, u] t) 1 (by simp), hs.ext ((Ext.refl w).alloc _)⟩
theorem flat_take (ls : List (List UInt8)) (k : Nat) (h : k < ls.length) : (ls.take (k + 1)).flatten = (ls.take k).flatten ++ ls.getD k [] := by
  rw [List.take_add_one, List.getElem?_eq_getElem h, List.getD_eq_getElem?_getD, List.getElem?_eq_getElem h, List.flatten_append]
  simp
theorem flat_le (ls : List (List UInt8)) (k : Nat) : (ls.take k).flatten.length ≤ ls.flatten.length := by
  conv => rhs; rw [← List.take_append_drop k ls, List.flatten_append, List.length_append]
  omega

/-- A slice's value, taken apart. -/
theorem Own.shape {base : Nat} {w : World} {v : Value} {l : List UInt8} (h : Own w base v l) : ∃ A m c, v = .slice A m c := by obtain ⟨A, c, rfl, _⟩ := h.rd; exact ⟨_, _, _, rfl⟩
theorem Rd.shape {w : World} {v : Value} {l : List UInt8} (h : Rd w v l) : ∃ A m c, v = .slice A m c := by obtain ⟨A, c, rfl, _⟩ := h; exact ⟨_, _, _, rfl⟩
theorem equal_c (w : World) (a b : Value) (l m : List UInt8) (ha : Rd w a l) (hb : Rd w b m) (r : Bool) (hr : (l == m) = r) :
    Calls Try.prog 50 #[a, b] w fun e w' => e = .returned (.bool r) ∧ w = w' := by
  have HA := Lib.hid ha
  have HB := Lib.hid hb
  have HR := Lib.hid hr
  clear ha hb hr
  go_enter Try.func50, Try.ntmps50
  go_wp2_with (first | ((with_reducible show wpList _ _ _ (⟨some 6, _, _, _, _, _⟩ :: _) _ _); refine wpl_str bt HA.out rfl _ rfl rfl ?_) | ((with_reducible show wpList _ _ _ (⟨some 8, _, _, _, _, _⟩ :: _) _ _); refine wpl_str bt HB.out rfl _ rfl rfl ?_))
  go_ret
  refine ⟨?_, rfl⟩
  rw [← HR.out]
  show Ending.returned (Value.bool ((strL l).toList == (strL m).toList)) = _
  rw [strL_tl, strL_tl]

/-- Is a text empty? In the walk's own forms. -/
theorem str_empty {s : ByteArray} (h : s.data.toList = []) : s = ByteArray.empty := by
  apply ByteArray.ext
  exact Array.toList_eq_nil_iff.1 h
theorem str_ne {s : ByteArray} (h : s.data.toList ≠ []) : s.toList.isEmpty = false := by
  rw [ByteArray.toList_eq]
  simpa using h

end Go.Proofs.Ytaiakkifefedoaa
