/- SHA-512, over lists of numbers. -/
import Derived.Test.YtflpjnillfgghaaDoorNum
import Derived.Test.YtflpjnillfgghaaDoorRows
import Derived.WalkKit
import Derived.WalkLawsBesides
import Derived.Lib.Hide
import Derived.Deep.QuietTactic
import Derived.BigQuiet
import Derived.Deep.RegionHeld3
import Derived.RegionTactic
import Derived.Deep.DeepCutAuto
import Derived.Deep.CutBlock
import Derived.Deep.LoopGhost
import Derived.StillTailTactics
namespace Go.Proofs.YtflpjnillfgghaaDoor
open Go Go.RowKit
def xo (a b : Nat) : Nat := (a % 18446744073709551616) ^^^ (b % 18446744073709551616)
def an (a b : Nat) : Nat := (a % 18446744073709551616) &&& (b % 18446744073709551616)
def orr (a b : Nat) : Nat := (a % 18446744073709551616) ||| (b % 18446744073709551616)
def ad (a b : Nat) : Nat := (a + b) % 18446744073709551616
def nt (a : Nat) : Nat := xo 18446744073709551615 a
def rot (x n : Nat) : Nat := orr (x * 2 ^ (64 - n) % 18446744073709551616) (x / 2 ^ n)
def keyS : List Nat := [4794697086780616226, 8158064640168781261, 13096744586834688815, 16840607885511220156, 4131703408338449720, 6480981068601479193, 10538285296894168987, 12329834152419229976, 15566598209576043074, 1334009975649890238, 2608012711638119052, 6128411473006802146, 8268148722764581231, 9286055187155687089, 11230858885718282805, 13951009754708518548, 16472876342353939154, 17275323862435702243, 1135362057144423861, 2597628984639134821, 3308224258029322869, 5365058923640841347, 6679025012923562964, 8573033837759648693, 10970295158949994411, 12119686244451234320, 12683024718118986047, 13788192230050041572, 14330467153632333762, 15395433587784984357, 489312712824947311, 1452737877330783856, 2861767655752347644, 3322285676063803686, 5560940570517711597, 5996557281743188959, 7280758554555802590, 8532644243296465576, 9350256976987008742, 10552545826968843579, 11727347734174303076, 12113106623233404929, 14000437183269869457, 14369950271660146224, 15101387698204529176, 15463397548674623760, 17586052441742319658, 1182934255886127544, 1847814050463011016, 2177327727835720531, 2830643537854262169, 3796741975233480872, 4115178125766777443, 5681478168544905931, 6601373596472566643, 7507060721942968483, 8399075790359081724, 8693463985226723168, 9568029438360202098, 10144078919501101548, 10430055236837252648, 11840083180663258601, 13761210420658862357, 14299343276471374635, 14566680578165727644, 15097957966210449927, 16922976911328602910, 17689382322260857208, 500013540394364858, 748580250866718886, 1242879168328830382, 1977374033974150939, 2944078676154940804, 3659926193048069267, 4368137639120453308, 4836135668995329356, 5532061633213252278, 6448918945643986474, 6902733635092675308, 7801388544844847127]
def begS : List Nat := [7640891576956012808, 13503953896175478587, 4354685564936845355, 11912009170470909681, 5840696475078001361, 11170449401992604703, 2270897969802886507, 6620516959819538809]
def beS (l : List Nat) : Nat := l.foldl (fun n c => orr (n * 256 % 18446744073709551616) c) 0
def wnext (W : List Nat) : Nat :=
  let i := W.length
  let x := W.getD (i - 15) 0
  let y := W.getD (i - 2) 0
  ad (ad (ad (W.getD (i - 16) 0) (W.getD (i - 7) 0)) (xo (xo (rot x 1) (rot x 8)) (x / 2 ^ 7))) (xo (xo (rot y 19) (rot y 61)) (y / 2 ^ 6))
def wpre (b : List Nat) : Nat → List Nat
  | 0 => []
  | i + 1 => wpre b i ++ [if i < 16 then beS ((b.drop (8 * i)).take 8) else wnext (wpre b i)]
def rndX (s : List Nat) (k w : Nat) : Nat :=
  let e := s.getD 4 0
  ad (ad (ad (ad (s.getD 7 0) (xo (xo (rot e 14) (rot e 18)) (rot e 41))) (xo (an e (s.getD 5 0)) (an (nt e) (s.getD 6 0)))) k) w
def rndY (s : List Nat) : Nat :=
  let a := s.getD 0 0
  ad (xo (xo (rot a 28) (rot a 34)) (rot a 39)) (xo (xo (an a (s.getD 1 0)) (an a (s.getD 2 0))) (an (s.getD 1 0) (s.getD 2 0)))
def rnd (s : List Nat) (k w : Nat) : List Nat :=
  let x := rndX s k w
  [ad x (rndY s), s.getD 0 0, s.getD 1 0, s.getD 2 0, ad (s.getD 3 0) x, s.getD 4 0, s.getD 5 0, s.getD 6 0]
def rnds (s : List Nat) (W : List Nat) : Nat → List Nat
  | 0 => s
  | i + 1 => rnd (rnds s W i) (keyS.getD i 0) (W.getD i 0)
def eatS (s b : List Nat) : List Nat := List.zipWith ad (rnds s (wpre b 80) 80) s
def smS (n : Nat) : List Nat := (List.range 8).map fun j => n / 2 ^ (8 * (7 - j)) % 256
def fillS (n : Nat) : Nat := (247 - n % 128) % 128
def padS (m : List Nat) : List Nat := m ++ [128] ++ List.replicate (fillS m.length) 0 ++ (if fillS m.length < 8 then List.replicate 128 0 else []) ++ smS (m.length * 8 % 18446744073709551616)
def blkS (t : List Nat) : Nat → List Nat
  | 0 => begS
  | i + 1 => eatS (blkS t i) ((t.drop (128 * i)).take 128)
def sumS (m : List Nat) : List Nat := (blkS (padS m) ((padS m).length / 128)).flatMap smS
theorem wrap_c (n : Nat) : IntKind.u64.wrap (n : Int) = ((n % 18446744073709551616 : Nat) : Int) := by
  simp [IntKind.wrap, IntKind.signed, IntKind.bits]
theorem bv_c (a : Nat) : (BitVec.ofInt 64 (a : Int)).toNat = a % 18446744073709551616 := by
  rw [BitVec.toNat_ofInt]
  have : ((a : Int) % ((2 ^ 64 : Nat) : Int)) = ((a % 18446744073709551616 : Nat) : Int) := by
    rw [show (2 ^ 64 : Nat) = 18446744073709551616 by decide]
    omega
  rw [this]
  rfl
theorem xor_c (a b : Nat) : bits .xor .u64 (a : Int) (b : Int) = ((xo a b : Nat) : Int) := by
  have h : bits .xor .u64 (a : Int) (b : Int) = IntKind.u64.wrap (((BitVec.ofInt 64 (a : Int) ^^^ BitVec.ofInt 64 (b : Int)).toNat : Nat) : Int) := rfl
  rw [h, wrap_c, Nat.mod_eq_of_lt (BitVec.isLt _), BitVec.toNat_xor, bv_c, bv_c]
  rfl
theorem and_c (a b : Nat) : bits .and .u64 (a : Int) (b : Int) = ((an a b : Nat) : Int) := by
  have h : bits .and .u64 (a : Int) (b : Int) = IntKind.u64.wrap (((BitVec.ofInt 64 (a : Int) &&& BitVec.ofInt 64 (b : Int)).toNat : Nat) : Int) := rfl
  rw [h, wrap_c, Nat.mod_eq_of_lt (BitVec.isLt _), BitVec.toNat_and, bv_c, bv_c]
  rfl
theorem or_c (a b : Nat) : bits .or .u64 (a : Int) (b : Int) = ((orr a b : Nat) : Int) := by
  have h : bits .or .u64 (a : Int) (b : Int) = IntKind.u64.wrap (((BitVec.ofInt 64 (a : Int) ||| BitVec.ofInt 64 (b : Int)).toNat : Nat) : Int) := rfl
  rw [h, wrap_c, Nat.mod_eq_of_lt (BitVec.isLt _), BitVec.toNat_or, bv_c, bv_c]
  rfl
theorem add_c (a b : Nat) : IntKind.u64.wrap ((a : Int) + (b : Int)) = ((ad a b : Nat) : Int) := by
  rw [show (a : Int) + (b : Int) = ((a + b : Nat) : Int) by omega, wrap_c]
  rfl
theorem shl_c (a n : Nat) : IntKind.u64.wrap ((a : Int) * 2 ^ n) = ((a * 2 ^ n % 18446744073709551616 : Nat) : Int) := by
  rw [show (a : Int) * 2 ^ n = ((a * 2 ^ n : Nat) : Int) by push_cast; rfl, wrap_c]
theorem shr_c (a n : Nat) : (a : Int).fdiv (2 ^ n) = ((a / 2 ^ n : Nat) : Int) := by
  rw [Int.fdiv_eq_ediv_of_nonneg _ (by exact Int.pow_nonneg (by decide))]
  push_cast
  rfl
theorem shd_c (a n : Nat) : (a : Int) / 2 ^ n = ((a / 2 ^ n : Nat) : Int) := by push_cast; rfl
theorem ad_lt (a b : Nat) : ad a b < 18446744073709551616 := Nat.mod_lt _ (by decide)
theorem smS_len (n : Nat) : (smS n).length = 8 := by simp [smS]
theorem rnd_len (s : List Nat) (k w : Nat) : (rnd s k w).length = 8 := rfl
theorem rnds_len {s : List Nat} (hs : s.length = 8) (W : List Nat) (i : Nat) : (rnds s W i).length = 8 := by
  cases i with
  | zero => exact hs
  | succ i => rfl
theorem eatS_len {s : List Nat} (hs : s.length = 8) (b : List Nat) : (eatS s b).length = 8 := by
  unfold eatS
  rw [List.length_zipWith, rnds_len hs, hs]
  rfl
theorem wpre_len (b : List Nat) (i : Nat) : (wpre b i).length = i := by
  induction i with
  | zero => rfl
  | succ i ih => rw [wpre, List.length_append, ih]; rfl
theorem blkS_len (t : List Nat) (i : Nat) : (blkS t i).length = 8 := by
  induction i with
  | zero => rfl
  | succ i ih => exact eatS_len ih _
theorem keyS_len : keyS.length = 80 := by decide
end Go.Proofs.YtflpjnillfgghaaDoor
