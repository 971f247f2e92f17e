/- Closed facts on the types of this translation, written by a program of this claim; each is decided by the kernel. -/
import Derived.Test.YtdbiggfnnhmpiaaProg
import Derived.Test.YtdbiggfnnhmpiaaHlMap
namespace Go.Proofs.Ytdbiggfnnhmpiaa
open Go Go.HL
theorem mixed : Go.Proofs.Try.prog.follows .mixedOrders = true := by kernel_rfl
namespace T
theorem ag2 : agB Go.Proofs.Try.prog 2 = some false := by kernel_rfl
theorem sz2 : szB Go.Proofs.Try.prog 2 = some 1 := by kernel_rfl
theorem by2 : byB Go.Proofs.Try.prog 2 = some 8 := by kernel_rfl
theorem zr2 : zrB Go.Proofs.Try.prog 2 = some (.int .i64 0) := by kernel_rfl
theorem in2 : inB Go.Proofs.Try.prog 2 = some .i64 := by kernel_rfl
theorem ag3 : agB Go.Proofs.Try.prog 3 = some false := by kernel_rfl
theorem sz3 : szB Go.Proofs.Try.prog 3 = some 1 := by kernel_rfl
theorem by3 : byB Go.Proofs.Try.prog 3 = some 8 := by kernel_rfl
theorem zr3 : zrB Go.Proofs.Try.prog 3 = some (.int .i64 0) := by kernel_rfl
theorem in3 : inB Go.Proofs.Try.prog 3 = some .i64 := by kernel_rfl
theorem ag4 : agB Go.Proofs.Try.prog 4 = some false := by kernel_rfl
theorem sz4 : szB Go.Proofs.Try.prog 4 = some 1 := by kernel_rfl
theorem by4 : byB Go.Proofs.Try.prog 4 = some 1 := by kernel_rfl
theorem zr4 : zrB Go.Proofs.Try.prog 4 = some (.bool false) := by kernel_rfl
theorem bo4 : boB Go.Proofs.Try.prog 4 = true := by kernel_rfl
theorem ag5 : agB Go.Proofs.Try.prog 5 = some false := by kernel_rfl
theorem sz5 : szB Go.Proofs.Try.prog 5 = some 1 := by kernel_rfl
theorem by5 : byB Go.Proofs.Try.prog 5 = some 1 := by kernel_rfl
theorem zr5 : zrB Go.Proofs.Try.prog 5 = some (.int .u8 0) := by kernel_rfl
theorem in5 : inB Go.Proofs.Try.prog 5 = some .u8 := by kernel_rfl
theorem ag6 : agB Go.Proofs.Try.prog 6 = some false := by kernel_rfl
theorem sz6 : szB Go.Proofs.Try.prog 6 = some 1 := by kernel_rfl
theorem by6 : byB Go.Proofs.Try.prog 6 = some 1 := by kernel_rfl
theorem zr6 : zrB Go.Proofs.Try.prog 6 = some (.int .u8 0) := by kernel_rfl
theorem in6 : inB Go.Proofs.Try.prog 6 = some .u8 := by kernel_rfl
theorem ag7 : agB Go.Proofs.Try.prog 7 = some true := by kernel_rfl
theorem sz7 : szB Go.Proofs.Try.prog 7 = some 4 := by kernel_rfl
theorem by7 : byB Go.Proofs.Try.prog 7 = some 24 := by kernel_rfl
theorem zr7 : zrB Go.Proofs.Try.prog 7 = some (.agg #[(.int .i64 0), (.int .i64 0), (.bool false), (.int .u8 0)]) := by kernel_rfl
theorem pl7 : V.plB Go.Proofs.Try.prog 7 = some [(0, 1), (1, 1), (2, 1), (3, 1)] := by kernel_rfl
theorem fd7_0 : fdB Go.Proofs.Try.prog 7 0 = some (0, 2, 0 + 1) := by kernel_rfl
theorem fd7_1 : fdB Go.Proofs.Try.prog 7 1 = some (1, 3, 0 + 1) := by kernel_rfl
theorem fd7_2 : fdB Go.Proofs.Try.prog 7 2 = some (2, 4, 0 + 1) := by kernel_rfl
theorem fd7_3 : fdB Go.Proofs.Try.prog 7 3 = some (3, 6, 0 + 1) := by kernel_rfl
theorem ag8 : agB Go.Proofs.Try.prog 8 = some true := by kernel_rfl
theorem sz8 : szB Go.Proofs.Try.prog 8 = some 4 := by kernel_rfl
theorem by8 : byB Go.Proofs.Try.prog 8 = some 24 := by kernel_rfl
theorem zr8 : zrB Go.Proofs.Try.prog 8 = some (.agg #[(.int .i64 0), (.int .i64 0), (.bool false), (.int .u8 0)]) := by kernel_rfl
theorem pl8 : V.plB Go.Proofs.Try.prog 8 = some [(0, 1), (1, 1), (2, 1), (3, 1)] := by kernel_rfl
theorem fd8_0 : fdB Go.Proofs.Try.prog 8 0 = some (0, 2, 0 + 1) := by kernel_rfl
theorem fd8_1 : fdB Go.Proofs.Try.prog 8 1 = some (1, 3, 0 + 1) := by kernel_rfl
theorem fd8_2 : fdB Go.Proofs.Try.prog 8 2 = some (2, 4, 0 + 1) := by kernel_rfl
theorem fd8_3 : fdB Go.Proofs.Try.prog 8 3 = some (3, 6, 0 + 1) := by kernel_rfl
theorem ag9 : agB Go.Proofs.Try.prog 9 = some false := by kernel_rfl
theorem sz9 : szB Go.Proofs.Try.prog 9 = some 1 := by kernel_rfl
theorem by9 : byB Go.Proofs.Try.prog 9 = some 16 := by kernel_rfl
theorem zr9 : zrB Go.Proofs.Try.prog 9 = some (.string ByteArray.empty) := by kernel_rfl
theorem st9 : stB Go.Proofs.Try.prog 9 = true := by kernel_rfl
theorem ag10 : agB Go.Proofs.Try.prog 10 = some false := by kernel_rfl
theorem sz10 : szB Go.Proofs.Try.prog 10 = some 1 := by kernel_rfl
theorem by10 : byB Go.Proofs.Try.prog 10 = some 16 := by kernel_rfl
theorem zr10 : zrB Go.Proofs.Try.prog 10 = some (.string ByteArray.empty) := by kernel_rfl
theorem st10 : stB Go.Proofs.Try.prog 10 = true := by kernel_rfl
theorem ag11 : agB Go.Proofs.Try.prog 11 = some false := by kernel_rfl
theorem sz11 : szB Go.Proofs.Try.prog 11 = some 1 := by kernel_rfl
theorem by11 : byB Go.Proofs.Try.prog 11 = some 16 := by kernel_rfl
theorem zr11 : zrB Go.Proofs.Try.prog 11 = some (.string ByteArray.empty) := by kernel_rfl
theorem st11 : stB Go.Proofs.Try.prog 11 = true := by kernel_rfl
theorem ag12 : agB Go.Proofs.Try.prog 12 = some false := by kernel_rfl
theorem sz12 : szB Go.Proofs.Try.prog 12 = some 1 := by kernel_rfl
theorem by12 : byB Go.Proofs.Try.prog 12 = some 8 := by kernel_rfl
theorem zr12 : zrB Go.Proofs.Try.prog 12 = some (.int .u64 0) := by kernel_rfl
theorem in12 : inB Go.Proofs.Try.prog 12 = some .u64 := by kernel_rfl
theorem ag13 : agB Go.Proofs.Try.prog 13 = some true := by kernel_rfl
theorem sz13 : szB Go.Proofs.Try.prog 13 = some 2 := by kernel_rfl
theorem by13 : byB Go.Proofs.Try.prog 13 = some 24 := by kernel_rfl
theorem zr13 : zrB Go.Proofs.Try.prog 13 = some (.agg #[(.string ByteArray.empty), (.int .u64 0)]) := by kernel_rfl
theorem pl13 : V.plB Go.Proofs.Try.prog 13 = some [(0, 1), (1, 1)] := by kernel_rfl
theorem fd13_0 : fdB Go.Proofs.Try.prog 13 0 = some (0, 9, 0 + 1) := by kernel_rfl
theorem fd13_1 : fdB Go.Proofs.Try.prog 13 1 = some (1, 12, 0 + 1) := by kernel_rfl
theorem ag14 : agB Go.Proofs.Try.prog 14 = some true := by kernel_rfl
theorem sz14 : szB Go.Proofs.Try.prog 14 = some 2 := by kernel_rfl
theorem by14 : byB Go.Proofs.Try.prog 14 = some 24 := by kernel_rfl
theorem zr14 : zrB Go.Proofs.Try.prog 14 = some (.agg #[(.string ByteArray.empty), (.int .u64 0)]) := by kernel_rfl
theorem pl14 : V.plB Go.Proofs.Try.prog 14 = some [(0, 1), (1, 1)] := by kernel_rfl
theorem fd14_0 : fdB Go.Proofs.Try.prog 14 0 = some (0, 9, 0 + 1) := by kernel_rfl
theorem fd14_1 : fdB Go.Proofs.Try.prog 14 1 = some (1, 12, 0 + 1) := by kernel_rfl
theorem ag15 : agB Go.Proofs.Try.prog 15 = some false := by kernel_rfl
theorem sz15 : szB Go.Proofs.Try.prog 15 = some 1 := by kernel_rfl
theorem by15 : byB Go.Proofs.Try.prog 15 = some 8 := by kernel_rfl
theorem zr15 : zrB Go.Proofs.Try.prog 15 = some (.pointer none) := by kernel_rfl
theorem pt15 : ptB Go.Proofs.Try.prog 15 = some 115 := by kernel_rfl
theorem ag16 : agB Go.Proofs.Try.prog 16 = some false := by kernel_rfl
theorem sz16 : szB Go.Proofs.Try.prog 16 = some 1 := by kernel_rfl
theorem by16 : byB Go.Proofs.Try.prog 16 = some 8 := by kernel_rfl
theorem zr16 : zrB Go.Proofs.Try.prog 16 = some (.pointer none) := by kernel_rfl
theorem pt16 : ptB Go.Proofs.Try.prog 16 = some 118 := by kernel_rfl
theorem ag17 : agB Go.Proofs.Try.prog 17 = some false := by kernel_rfl
theorem sz17 : szB Go.Proofs.Try.prog 17 = some 1 := by kernel_rfl
theorem by17 : byB Go.Proofs.Try.prog 17 = some 8 := by kernel_rfl
theorem zr17 : zrB Go.Proofs.Try.prog 17 = some (.pointer none) := by kernel_rfl
theorem pt17 : ptB Go.Proofs.Try.prog 17 = some 127 := by kernel_rfl
theorem ag18 : agB Go.Proofs.Try.prog 18 = some true := by kernel_rfl
theorem sz18 : szB Go.Proofs.Try.prog 18 = some 1 := by kernel_rfl
theorem by18 : byB Go.Proofs.Try.prog 18 = some 8 := by kernel_rfl
theorem zr18 : zrB Go.Proofs.Try.prog 18 = some (.agg #[(.pointer none)]) := by kernel_rfl
theorem pl18 : V.plB Go.Proofs.Try.prog 18 = some [(0, 1)] := by kernel_rfl
theorem fd18_0 : fdB Go.Proofs.Try.prog 18 0 = some (0, 17, 0 + 1) := by kernel_rfl
theorem ag19 : agB Go.Proofs.Try.prog 19 = some true := by kernel_rfl
theorem sz19 : szB Go.Proofs.Try.prog 19 = some 1 := by kernel_rfl
theorem by19 : byB Go.Proofs.Try.prog 19 = some 8 := by kernel_rfl
theorem zr19 : zrB Go.Proofs.Try.prog 19 = some (.agg #[(.pointer none)]) := by kernel_rfl
theorem pl19 : V.plB Go.Proofs.Try.prog 19 = some [(0, 1)] := by kernel_rfl
theorem fd19_0 : fdB Go.Proofs.Try.prog 19 0 = some (0, 17, 0 + 1) := by kernel_rfl
theorem ag21 : agB Go.Proofs.Try.prog 21 = some false := by kernel_rfl
theorem sz21 : szB Go.Proofs.Try.prog 21 = some 1 := by kernel_rfl
theorem by21 : byB Go.Proofs.Try.prog 21 = some 4 := by kernel_rfl
theorem zr21 : zrB Go.Proofs.Try.prog 21 = some (.int .i32 0) := by kernel_rfl
theorem in21 : inB Go.Proofs.Try.prog 21 = some .i32 := by kernel_rfl
theorem ag22 : agB Go.Proofs.Try.prog 22 = some false := by kernel_rfl
theorem sz22 : szB Go.Proofs.Try.prog 22 = some 1 := by kernel_rfl
theorem by22 : byB Go.Proofs.Try.prog 22 = some 24 := by kernel_rfl
theorem zr22 : zrB Go.Proofs.Try.prog 22 = some (.slice none 0 0) := by kernel_rfl
theorem el22 : elB Go.Proofs.Try.prog 22 = some 33 := by kernel_rfl
theorem ag23 : agB Go.Proofs.Try.prog 23 = some false := by kernel_rfl
theorem sz23 : szB Go.Proofs.Try.prog 23 = some 1 := by kernel_rfl
theorem by23 : byB Go.Proofs.Try.prog 23 = some 8 := by kernel_rfl
theorem zr23 : zrB Go.Proofs.Try.prog 23 = some (.pointer none) := by kernel_rfl
theorem pt23 : ptB Go.Proofs.Try.prog 23 = some 64 := by kernel_rfl
theorem ag24 : agB Go.Proofs.Try.prog 24 = some false := by kernel_rfl
theorem sz24 : szB Go.Proofs.Try.prog 24 = some 1 := by kernel_rfl
theorem by24 : byB Go.Proofs.Try.prog 24 = some 8 := by kernel_rfl
theorem zr24 : zrB Go.Proofs.Try.prog 24 = some (.int .i64 0) := by kernel_rfl
theorem in24 : inB Go.Proofs.Try.prog 24 = some .i64 := by kernel_rfl
theorem ag29 : agB Go.Proofs.Try.prog 29 = some true := by kernel_rfl
theorem sz29 : szB Go.Proofs.Try.prog 29 = some 16 := by kernel_rfl
theorem by29 : byB Go.Proofs.Try.prog 29 = some 128 := by kernel_rfl
theorem zr29 : zrB Go.Proofs.Try.prog 29 = some (.agg #[(.int .i64 0), (.int .i64 0), (.int .i64 0), (.int .i64 0), (.int .i64 0), (.int .i64 0), (.int .i64 0), (.int .i64 0), (.int .i64 0), (.int .i64 0), (.int .i64 0), (.int .i64 0), (.int .i64 0), (.int .i64 0), (.int .i64 0), (.int .i64 0)]) := by kernel_rfl
theorem ar29 : arB Go.Proofs.Try.prog 29 = some (16, 3) := by kernel_rfl
theorem ag30 : agB Go.Proofs.Try.prog 30 = some false := by kernel_rfl
theorem sz30 : szB Go.Proofs.Try.prog 30 = some 1 := by kernel_rfl
theorem by30 : byB Go.Proofs.Try.prog 30 = some 24 := by kernel_rfl
theorem zr30 : zrB Go.Proofs.Try.prog 30 = some (.slice none 0 0) := by kernel_rfl
theorem el30 : elB Go.Proofs.Try.prog 30 = some 5 := by kernel_rfl
theorem ag31 : agB Go.Proofs.Try.prog 31 = some false := by kernel_rfl
theorem sz31 : szB Go.Proofs.Try.prog 31 = some 1 := by kernel_rfl
theorem by31 : byB Go.Proofs.Try.prog 31 = some 24 := by kernel_rfl
theorem zr31 : zrB Go.Proofs.Try.prog 31 = some (.slice none 0 0) := by kernel_rfl
theorem el31 : elB Go.Proofs.Try.prog 31 = some 3 := by kernel_rfl
theorem ag32 : agB Go.Proofs.Try.prog 32 = some true := by kernel_rfl
theorem sz32 : szB Go.Proofs.Try.prog 32 = some 5 := by kernel_rfl
theorem by32 : byB Go.Proofs.Try.prog 32 = some 72 := by kernel_rfl
theorem zr32 : zrB Go.Proofs.Try.prog 32 = some (.agg #[(.int .u8 0), (.int .i64 0), (.slice none 0 0), (.bool false), (.slice none 0 0)]) := by kernel_rfl
theorem pl32 : V.plB Go.Proofs.Try.prog 32 = some [(0, 1), (1, 1), (2, 1), (3, 1), (4, 1)] := by kernel_rfl
theorem fd32_0 : fdB Go.Proofs.Try.prog 32 0 = some (0, 5, 0 + 1) := by kernel_rfl
theorem fd32_1 : fdB Go.Proofs.Try.prog 32 1 = some (1, 3, 0 + 1) := by kernel_rfl
theorem fd32_2 : fdB Go.Proofs.Try.prog 32 2 = some (2, 30, 0 + 1) := by kernel_rfl
theorem fd32_3 : fdB Go.Proofs.Try.prog 32 3 = some (3, 4, 0 + 1) := by kernel_rfl
theorem fd32_4 : fdB Go.Proofs.Try.prog 32 4 = some (4, 31, 0 + 1) := by kernel_rfl
theorem ag33 : agB Go.Proofs.Try.prog 33 = some true := by kernel_rfl
theorem sz33 : szB Go.Proofs.Try.prog 33 = some 5 := by kernel_rfl
theorem by33 : byB Go.Proofs.Try.prog 33 = some 72 := by kernel_rfl
theorem zr33 : zrB Go.Proofs.Try.prog 33 = some (.agg #[(.int .u8 0), (.int .i64 0), (.slice none 0 0), (.bool false), (.slice none 0 0)]) := by kernel_rfl
theorem pl33 : V.plB Go.Proofs.Try.prog 33 = some [(0, 1), (1, 1), (2, 1), (3, 1), (4, 1)] := by kernel_rfl
theorem fd33_0 : fdB Go.Proofs.Try.prog 33 0 = some (0, 5, 0 + 1) := by kernel_rfl
theorem fd33_1 : fdB Go.Proofs.Try.prog 33 1 = some (1, 3, 0 + 1) := by kernel_rfl
theorem fd33_2 : fdB Go.Proofs.Try.prog 33 2 = some (2, 30, 0 + 1) := by kernel_rfl
theorem fd33_3 : fdB Go.Proofs.Try.prog 33 3 = some (3, 4, 0 + 1) := by kernel_rfl
theorem fd33_4 : fdB Go.Proofs.Try.prog 33 4 = some (4, 31, 0 + 1) := by kernel_rfl
theorem ag36 : agB Go.Proofs.Try.prog 36 = some false := by kernel_rfl
theorem sz36 : szB Go.Proofs.Try.prog 36 = some 1 := by kernel_rfl
theorem by36 : byB Go.Proofs.Try.prog 36 = some 24 := by kernel_rfl
theorem zr36 : zrB Go.Proofs.Try.prog 36 = some (.slice none 0 0) := by kernel_rfl
theorem el36 : elB Go.Proofs.Try.prog 36 = some 39 := by kernel_rfl
theorem ag38 : agB Go.Proofs.Try.prog 38 = some true := by kernel_rfl
theorem sz38 : szB Go.Proofs.Try.prog 38 = some 3 := by kernel_rfl
theorem by38 : byB Go.Proofs.Try.prog 38 = some 40 := by kernel_rfl
theorem zr38 : zrB Go.Proofs.Try.prog 38 = some (.agg #[(.int .i64 0), (.int .i64 0), (.slice none 0 0)]) := by kernel_rfl
theorem pl38 : V.plB Go.Proofs.Try.prog 38 = some [(0, 1), (1, 1), (2, 1)] := by kernel_rfl
theorem fd38_0 : fdB Go.Proofs.Try.prog 38 0 = some (0, 3, 0 + 1) := by kernel_rfl
theorem fd38_1 : fdB Go.Proofs.Try.prog 38 1 = some (1, 3, 0 + 1) := by kernel_rfl
theorem fd38_2 : fdB Go.Proofs.Try.prog 38 2 = some (2, 30, 0 + 1) := by kernel_rfl
theorem ag39 : agB Go.Proofs.Try.prog 39 = some true := by kernel_rfl
theorem sz39 : szB Go.Proofs.Try.prog 39 = some 3 := by kernel_rfl
theorem by39 : byB Go.Proofs.Try.prog 39 = some 40 := by kernel_rfl
theorem zr39 : zrB Go.Proofs.Try.prog 39 = some (.agg #[(.int .i64 0), (.int .i64 0), (.slice none 0 0)]) := by kernel_rfl
theorem pl39 : V.plB Go.Proofs.Try.prog 39 = some [(0, 1), (1, 1), (2, 1)] := by kernel_rfl
theorem fd39_0 : fdB Go.Proofs.Try.prog 39 0 = some (0, 3, 0 + 1) := by kernel_rfl
theorem fd39_1 : fdB Go.Proofs.Try.prog 39 1 = some (1, 3, 0 + 1) := by kernel_rfl
theorem fd39_2 : fdB Go.Proofs.Try.prog 39 2 = some (2, 30, 0 + 1) := by kernel_rfl
theorem ag47 : agB Go.Proofs.Try.prog 47 = some false := by kernel_rfl
theorem sz47 : szB Go.Proofs.Try.prog 47 = some 1 := by kernel_rfl
theorem by47 : byB Go.Proofs.Try.prog 47 = some 24 := by kernel_rfl
theorem zr47 : zrB Go.Proofs.Try.prog 47 = some (.slice none 0 0) := by kernel_rfl
theorem el47 : elB Go.Proofs.Try.prog 47 = some 78 := by kernel_rfl
theorem ag48 : agB Go.Proofs.Try.prog 48 = some true := by kernel_rfl
theorem sz48 : szB Go.Proofs.Try.prog 48 = some 2 := by kernel_rfl
theorem by48 : byB Go.Proofs.Try.prog 48 = some 32 := by kernel_rfl
theorem zr48 : zrB Go.Proofs.Try.prog 48 = some (.agg #[(.int .i64 0), (.slice none 0 0)]) := by kernel_rfl
theorem pl48 : V.plB Go.Proofs.Try.prog 48 = some [(0, 1), (1, 1)] := by kernel_rfl
theorem fd48_0 : fdB Go.Proofs.Try.prog 48 0 = some (0, 3, 0 + 1) := by kernel_rfl
theorem fd48_1 : fdB Go.Proofs.Try.prog 48 1 = some (1, 47, 0 + 1) := by kernel_rfl
theorem ag49 : agB Go.Proofs.Try.prog 49 = some true := by kernel_rfl
theorem sz49 : szB Go.Proofs.Try.prog 49 = some 2 := by kernel_rfl
theorem by49 : byB Go.Proofs.Try.prog 49 = some 32 := by kernel_rfl
theorem zr49 : zrB Go.Proofs.Try.prog 49 = some (.agg #[(.int .i64 0), (.slice none 0 0)]) := by kernel_rfl
theorem pl49 : V.plB Go.Proofs.Try.prog 49 = some [(0, 1), (1, 1)] := by kernel_rfl
theorem fd49_0 : fdB Go.Proofs.Try.prog 49 0 = some (0, 3, 0 + 1) := by kernel_rfl
theorem fd49_1 : fdB Go.Proofs.Try.prog 49 1 = some (1, 47, 0 + 1) := by kernel_rfl
theorem ag60 : agB Go.Proofs.Try.prog 60 = some false := by kernel_rfl
theorem sz60 : szB Go.Proofs.Try.prog 60 = some 1 := by kernel_rfl
theorem by60 : byB Go.Proofs.Try.prog 60 = some 8 := by kernel_rfl
theorem zr60 : zrB Go.Proofs.Try.prog 60 = some (.map none) := by kernel_rfl
theorem mp60 : mpB Go.Proofs.Try.prog 60 = some (3, 65) := by kernel_rfl
theorem ag61 : agB Go.Proofs.Try.prog 61 = some true := by kernel_rfl
theorem sz61 : szB Go.Proofs.Try.prog 61 = some 1 := by kernel_rfl
theorem by61 : byB Go.Proofs.Try.prog 61 = some 24 := by kernel_rfl
theorem zr61 : zrB Go.Proofs.Try.prog 61 = some (.agg #[(.slice none 0 0)]) := by kernel_rfl
theorem pl61 : V.plB Go.Proofs.Try.prog 61 = some [(0, 1)] := by kernel_rfl
theorem fd61_0 : fdB Go.Proofs.Try.prog 61 0 = some (0, 31, 0 + 1) := by kernel_rfl
theorem ag62 : agB Go.Proofs.Try.prog 62 = some true := by kernel_rfl
theorem sz62 : szB Go.Proofs.Try.prog 62 = some 1 := by kernel_rfl
theorem by62 : byB Go.Proofs.Try.prog 62 = some 24 := by kernel_rfl
theorem zr62 : zrB Go.Proofs.Try.prog 62 = some (.agg #[(.slice none 0 0)]) := by kernel_rfl
theorem pl62 : V.plB Go.Proofs.Try.prog 62 = some [(0, 1)] := by kernel_rfl
theorem fd62_0 : fdB Go.Proofs.Try.prog 62 0 = some (0, 31, 0 + 1) := by kernel_rfl
theorem ag63 : agB Go.Proofs.Try.prog 63 = some true := by kernel_rfl
theorem sz63 : szB Go.Proofs.Try.prog 63 = some 3 := by kernel_rfl
theorem by63 : byB Go.Proofs.Try.prog 63 = some 40 := by kernel_rfl
theorem zr63 : zrB Go.Proofs.Try.prog 63 = some (.agg #[(.slice none 0 0), (.int .i64 0), (.map none)]) := by kernel_rfl
theorem pl63 : V.plB Go.Proofs.Try.prog 63 = some [(0, 1), (1, 1), (2, 1)] := by kernel_rfl
theorem fd63_0 : fdB Go.Proofs.Try.prog 63 0 = some (0, 62, 0 + 1) := by kernel_rfl
theorem fd63_1 : fdB Go.Proofs.Try.prog 63 1 = some (1, 3, 0 + 1) := by kernel_rfl
theorem fd63_2 : fdB Go.Proofs.Try.prog 63 2 = some (2, 60, 0 + 1) := by kernel_rfl
theorem ag64 : agB Go.Proofs.Try.prog 64 = some true := by kernel_rfl
theorem sz64 : szB Go.Proofs.Try.prog 64 = some 3 := by kernel_rfl
theorem by64 : byB Go.Proofs.Try.prog 64 = some 40 := by kernel_rfl
theorem zr64 : zrB Go.Proofs.Try.prog 64 = some (.agg #[(.slice none 0 0), (.int .i64 0), (.map none)]) := by kernel_rfl
theorem pl64 : V.plB Go.Proofs.Try.prog 64 = some [(0, 1), (1, 1), (2, 1)] := by kernel_rfl
theorem fd64_0 : fdB Go.Proofs.Try.prog 64 0 = some (0, 62, 0 + 1) := by kernel_rfl
theorem fd64_1 : fdB Go.Proofs.Try.prog 64 1 = some (1, 3, 0 + 1) := by kernel_rfl
theorem fd64_2 : fdB Go.Proofs.Try.prog 64 2 = some (2, 60, 0 + 1) := by kernel_rfl
theorem ag65 : agB Go.Proofs.Try.prog 65 = some false := by kernel_rfl
theorem sz65 : szB Go.Proofs.Try.prog 65 = some 1 := by kernel_rfl
theorem by65 : byB Go.Proofs.Try.prog 65 = some 8 := by kernel_rfl
theorem zr65 : zrB Go.Proofs.Try.prog 65 = some (.pointer none) := by kernel_rfl
theorem pt65 : ptB Go.Proofs.Try.prog 65 = some 69 := by kernel_rfl
theorem ag68 : agB Go.Proofs.Try.prog 68 = some true := by kernel_rfl
theorem sz68 : szB Go.Proofs.Try.prog 68 = some 2 := by kernel_rfl
theorem by68 : byB Go.Proofs.Try.prog 68 = some 32 := by kernel_rfl
theorem zr68 : zrB Go.Proofs.Try.prog 68 = some (.agg #[(.slice none 0 0), (.bool false)]) := by kernel_rfl
theorem pl68 : V.plB Go.Proofs.Try.prog 68 = some [(0, 1), (1, 1)] := by kernel_rfl
theorem fd68_0 : fdB Go.Proofs.Try.prog 68 0 = some (0, 30, 0 + 1) := by kernel_rfl
theorem fd68_1 : fdB Go.Proofs.Try.prog 68 1 = some (1, 4, 0 + 1) := by kernel_rfl
theorem ag69 : agB Go.Proofs.Try.prog 69 = some true := by kernel_rfl
theorem sz69 : szB Go.Proofs.Try.prog 69 = some 2 := by kernel_rfl
theorem by69 : byB Go.Proofs.Try.prog 69 = some 32 := by kernel_rfl
theorem zr69 : zrB Go.Proofs.Try.prog 69 = some (.agg #[(.slice none 0 0), (.bool false)]) := by kernel_rfl
theorem pl69 : V.plB Go.Proofs.Try.prog 69 = some [(0, 1), (1, 1)] := by kernel_rfl
theorem fd69_0 : fdB Go.Proofs.Try.prog 69 0 = some (0, 30, 0 + 1) := by kernel_rfl
theorem fd69_1 : fdB Go.Proofs.Try.prog 69 1 = some (1, 4, 0 + 1) := by kernel_rfl
theorem ag77 : agB Go.Proofs.Try.prog 77 = some true := by kernel_rfl
theorem sz77 : szB Go.Proofs.Try.prog 77 = some 3 := by kernel_rfl
theorem by77 : byB Go.Proofs.Try.prog 77 = some 40 := by kernel_rfl
theorem zr77 : zrB Go.Proofs.Try.prog 77 = some (.agg #[(.int .i64 0), (.slice none 0 0), (.bool false)]) := by kernel_rfl
theorem pl77 : V.plB Go.Proofs.Try.prog 77 = some [(0, 1), (1, 1), (2, 1)] := by kernel_rfl
theorem fd77_0 : fdB Go.Proofs.Try.prog 77 0 = some (0, 3, 0 + 1) := by kernel_rfl
theorem fd77_1 : fdB Go.Proofs.Try.prog 77 1 = some (1, 30, 0 + 1) := by kernel_rfl
theorem fd77_2 : fdB Go.Proofs.Try.prog 77 2 = some (2, 4, 0 + 1) := by kernel_rfl
theorem ag78 : agB Go.Proofs.Try.prog 78 = some true := by kernel_rfl
theorem sz78 : szB Go.Proofs.Try.prog 78 = some 3 := by kernel_rfl
theorem by78 : byB Go.Proofs.Try.prog 78 = some 40 := by kernel_rfl
theorem zr78 : zrB Go.Proofs.Try.prog 78 = some (.agg #[(.int .i64 0), (.slice none 0 0), (.bool false)]) := by kernel_rfl
theorem pl78 : V.plB Go.Proofs.Try.prog 78 = some [(0, 1), (1, 1), (2, 1)] := by kernel_rfl
theorem fd78_0 : fdB Go.Proofs.Try.prog 78 0 = some (0, 3, 0 + 1) := by kernel_rfl
theorem fd78_1 : fdB Go.Proofs.Try.prog 78 1 = some (1, 30, 0 + 1) := by kernel_rfl
theorem fd78_2 : fdB Go.Proofs.Try.prog 78 2 = some (2, 4, 0 + 1) := by kernel_rfl
theorem ag81 : agB Go.Proofs.Try.prog 81 = some false := by kernel_rfl
theorem sz81 : szB Go.Proofs.Try.prog 81 = some 1 := by kernel_rfl
theorem by81 : byB Go.Proofs.Try.prog 81 = some 24 := by kernel_rfl
theorem zr81 : zrB Go.Proofs.Try.prog 81 = some (.slice none 0 0) := by kernel_rfl
theorem el81 : elB Go.Proofs.Try.prog 81 = some 30 := by kernel_rfl
theorem ag83 : agB Go.Proofs.Try.prog 83 = some false := by kernel_rfl
theorem sz83 : szB Go.Proofs.Try.prog 83 = some 1 := by kernel_rfl
theorem by83 : byB Go.Proofs.Try.prog 83 = some 8 := by kernel_rfl
theorem zr83 : zrB Go.Proofs.Try.prog 83 = some (.pointer none) := by kernel_rfl
theorem pt83 : ptB Go.Proofs.Try.prog 83 = some 62 := by kernel_rfl
theorem ag90 : agB Go.Proofs.Try.prog 90 = some false := by kernel_rfl
theorem sz90 : szB Go.Proofs.Try.prog 90 = some 1 := by kernel_rfl
theorem by90 : byB Go.Proofs.Try.prog 90 = some 8 := by kernel_rfl
theorem zr90 : zrB Go.Proofs.Try.prog 90 = some (.int .u64 0) := by kernel_rfl
theorem in90 : inB Go.Proofs.Try.prog 90 = some .u64 := by kernel_rfl
theorem ag92 : agB Go.Proofs.Try.prog 92 = some false := by kernel_rfl
theorem sz92 : szB Go.Proofs.Try.prog 92 = some 1 := by kernel_rfl
theorem by92 : byB Go.Proofs.Try.prog 92 = some 8 := by kernel_rfl
theorem zr92 : zrB Go.Proofs.Try.prog 92 = some (.int .i64 0) := by kernel_rfl
theorem in92 : inB Go.Proofs.Try.prog 92 = some .i64 := by kernel_rfl
theorem ag101 : agB Go.Proofs.Try.prog 101 = some false := by kernel_rfl
theorem sz101 : szB Go.Proofs.Try.prog 101 = some 1 := by kernel_rfl
theorem by101 : byB Go.Proofs.Try.prog 101 = some 4 := by kernel_rfl
theorem zr101 : zrB Go.Proofs.Try.prog 101 = some (.int .u32 0) := by kernel_rfl
theorem in101 : inB Go.Proofs.Try.prog 101 = some .u32 := by kernel_rfl
theorem ag103 : agB Go.Proofs.Try.prog 103 = some false := by kernel_rfl
theorem sz103 : szB Go.Proofs.Try.prog 103 = some 1 := by kernel_rfl
theorem by103 : byB Go.Proofs.Try.prog 103 = some 8 := by kernel_rfl
theorem zr103 : zrB Go.Proofs.Try.prog 103 = some (.int .u64 0) := by kernel_rfl
theorem in103 : inB Go.Proofs.Try.prog 103 = some .u64 := by kernel_rfl
theorem ag104 : agB Go.Proofs.Try.prog 104 = some false := by kernel_rfl
theorem sz104 : szB Go.Proofs.Try.prog 104 = some 1 := by kernel_rfl
theorem by104 : byB Go.Proofs.Try.prog 104 = some 8 := by kernel_rfl
theorem zr104 : zrB Go.Proofs.Try.prog 104 = some (.int .u64 0) := by kernel_rfl
theorem in104 : inB Go.Proofs.Try.prog 104 = some .u64 := by kernel_rfl
theorem ag108 : agB Go.Proofs.Try.prog 108 = some false := by kernel_rfl
theorem sz108 : szB Go.Proofs.Try.prog 108 = some 1 := by kernel_rfl
theorem by108 : byB Go.Proofs.Try.prog 108 = some 8 := by kernel_rfl
theorem zr108 : zrB Go.Proofs.Try.prog 108 = some (.pointer none) := by kernel_rfl
theorem pt108 : ptB Go.Proofs.Try.prog 108 = some 3 := by kernel_rfl
theorem ag110 : agB Go.Proofs.Try.prog 110 = some false := by kernel_rfl
theorem sz110 : szB Go.Proofs.Try.prog 110 = some 1 := by kernel_rfl
theorem by110 : byB Go.Proofs.Try.prog 110 = some 8 := by kernel_rfl
theorem zr110 : zrB Go.Proofs.Try.prog 110 = some (.pointer none) := by kernel_rfl
theorem pt110 : ptB Go.Proofs.Try.prog 110 = some 104 := by kernel_rfl
theorem ag114 : agB Go.Proofs.Try.prog 114 = some true := by kernel_rfl
theorem sz114 : szB Go.Proofs.Try.prog 114 = some 4 := by kernel_rfl
theorem by114 : byB Go.Proofs.Try.prog 114 = some 40 := by kernel_rfl
theorem zr114 : zrB Go.Proofs.Try.prog 114 = some (.agg #[(.pointer none), (.pointer none), (.pointer none), (.string ByteArray.empty)]) := by kernel_rfl
theorem pl114 : V.plB Go.Proofs.Try.prog 114 = some [(0, 1), (1, 1), (2, 1), (3, 1)] := by kernel_rfl
theorem fd114_0 : fdB Go.Proofs.Try.prog 114 0 = some (0, 17, 0 + 1) := by kernel_rfl
theorem fd114_1 : fdB Go.Proofs.Try.prog 114 1 = some (1, 17, 0 + 1) := by kernel_rfl
theorem fd114_2 : fdB Go.Proofs.Try.prog 114 2 = some (2, 17, 0 + 1) := by kernel_rfl
theorem fd114_3 : fdB Go.Proofs.Try.prog 114 3 = some (3, 9, 0 + 1) := by kernel_rfl
theorem ag115 : agB Go.Proofs.Try.prog 115 = some true := by kernel_rfl
theorem sz115 : szB Go.Proofs.Try.prog 115 = some 4 := by kernel_rfl
theorem by115 : byB Go.Proofs.Try.prog 115 = some 40 := by kernel_rfl
theorem zr115 : zrB Go.Proofs.Try.prog 115 = some (.agg #[(.pointer none), (.pointer none), (.pointer none), (.string ByteArray.empty)]) := by kernel_rfl
theorem pl115 : V.plB Go.Proofs.Try.prog 115 = some [(0, 1), (1, 1), (2, 1), (3, 1)] := by kernel_rfl
theorem fd115_0 : fdB Go.Proofs.Try.prog 115 0 = some (0, 17, 0 + 1) := by kernel_rfl
theorem fd115_1 : fdB Go.Proofs.Try.prog 115 1 = some (1, 17, 0 + 1) := by kernel_rfl
theorem fd115_2 : fdB Go.Proofs.Try.prog 115 2 = some (2, 17, 0 + 1) := by kernel_rfl
theorem fd115_3 : fdB Go.Proofs.Try.prog 115 3 = some (3, 9, 0 + 1) := by kernel_rfl
theorem ag116 : agB Go.Proofs.Try.prog 116 = some true := by kernel_rfl
theorem sz116 : szB Go.Proofs.Try.prog 116 = some 0 := by kernel_rfl
theorem by116 : byB Go.Proofs.Try.prog 116 = some 0 := by kernel_rfl
theorem zr116 : zrB Go.Proofs.Try.prog 116 = some (.agg #[]) := by kernel_rfl
theorem ar116 : arB Go.Proofs.Try.prog 116 = some (0, 16) := by kernel_rfl
theorem ag117 : agB Go.Proofs.Try.prog 117 = some true := by kernel_rfl
theorem sz117 : szB Go.Proofs.Try.prog 117 = some 0 := by kernel_rfl
theorem by117 : byB Go.Proofs.Try.prog 117 = some 0 := by kernel_rfl
theorem zr117 : zrB Go.Proofs.Try.prog 117 = some (.agg #[]) := by kernel_rfl
theorem pl117 : V.plB Go.Proofs.Try.prog 117 = some [(0, 0)] := by kernel_rfl
theorem ag118 : agB Go.Proofs.Try.prog 118 = some true := by kernel_rfl
theorem sz118 : szB Go.Proofs.Try.prog 118 = some 0 := by kernel_rfl
theorem by118 : byB Go.Proofs.Try.prog 118 = some 0 := by kernel_rfl
theorem zr118 : zrB Go.Proofs.Try.prog 118 = some (.agg #[]) := by kernel_rfl
theorem pl118 : V.plB Go.Proofs.Try.prog 118 = some [(0, 0)] := by kernel_rfl
theorem ag120 : agB Go.Proofs.Try.prog 120 = some false := by kernel_rfl
theorem sz120 : szB Go.Proofs.Try.prog 120 = some 1 := by kernel_rfl
theorem by120 : byB Go.Proofs.Try.prog 120 = some 1 := by kernel_rfl
theorem zr120 : zrB Go.Proofs.Try.prog 120 = some (.int .u8 0) := by kernel_rfl
theorem in120 : inB Go.Proofs.Try.prog 120 = some .u8 := by kernel_rfl
theorem ag121 : agB Go.Proofs.Try.prog 121 = some false := by kernel_rfl
theorem sz121 : szB Go.Proofs.Try.prog 121 = some 1 := by kernel_rfl
theorem by121 : byB Go.Proofs.Try.prog 121 = some 1 := by kernel_rfl
theorem zr121 : zrB Go.Proofs.Try.prog 121 = some (.int .u8 0) := by kernel_rfl
theorem in121 : inB Go.Proofs.Try.prog 121 = some .u8 := by kernel_rfl
theorem ag123 : agB Go.Proofs.Try.prog 123 = some false := by kernel_rfl
theorem sz123 : szB Go.Proofs.Try.prog 123 = some 1 := by kernel_rfl
theorem by123 : byB Go.Proofs.Try.prog 123 = some 8 := by kernel_rfl
theorem zr123 : zrB Go.Proofs.Try.prog 123 = some (.pointer none) := by kernel_rfl
theorem pt123 : ptB Go.Proofs.Try.prog 123 = some 5 := by kernel_rfl
theorem ag124 : agB Go.Proofs.Try.prog 124 = some false := by kernel_rfl
theorem sz124 : szB Go.Proofs.Try.prog 124 = some 1 := by kernel_rfl
theorem by124 : byB Go.Proofs.Try.prog 124 = some 4 := by kernel_rfl
theorem zr124 : zrB Go.Proofs.Try.prog 124 = some (.int .i32 0) := by kernel_rfl
theorem in124 : inB Go.Proofs.Try.prog 124 = some .i32 := by kernel_rfl
theorem ag125 : agB Go.Proofs.Try.prog 125 = some false := by kernel_rfl
theorem sz125 : szB Go.Proofs.Try.prog 125 = some 1 := by kernel_rfl
theorem by125 : byB Go.Proofs.Try.prog 125 = some 4 := by kernel_rfl
theorem zr125 : zrB Go.Proofs.Try.prog 125 = some (.int .i32 0) := by kernel_rfl
theorem in125 : inB Go.Proofs.Try.prog 125 = some .i32 := by kernel_rfl
theorem ag126 : agB Go.Proofs.Try.prog 126 = some true := by kernel_rfl
theorem sz126 : szB Go.Proofs.Try.prog 126 = some 11 := by kernel_rfl
theorem by126 : byB Go.Proofs.Try.prog 126 = some 48 := by kernel_rfl
theorem zr126 : zrB Go.Proofs.Try.prog 126 = some (.agg #[(.int .u64 0), (.int .u64 0), (.int .u32 0), (.int .u8 0), (.int .u8 0), (.int .u8 0), (.int .u8 0), .nilFunc, (.pointer none), (.int .i32 0), (.int .i32 0)]) := by kernel_rfl
theorem fd126_0 : fdB Go.Proofs.Try.prog 126 0 = some (0, 12, 0 + 1) := by kernel_rfl
theorem fd126_1 : fdB Go.Proofs.Try.prog 126 1 = some (1, 12, 0 + 1) := by kernel_rfl
theorem fd126_2 : fdB Go.Proofs.Try.prog 126 2 = some (2, 101, 0 + 1) := by kernel_rfl
theorem fd126_3 : fdB Go.Proofs.Try.prog 126 3 = some (3, 120, 0 + 1) := by kernel_rfl
theorem fd126_4 : fdB Go.Proofs.Try.prog 126 4 = some (4, 5, 0 + 1) := by kernel_rfl
theorem fd126_5 : fdB Go.Proofs.Try.prog 126 5 = some (5, 5, 0 + 1) := by kernel_rfl
theorem fd126_6 : fdB Go.Proofs.Try.prog 126 6 = some (6, 121, 0 + 1) := by kernel_rfl
theorem fd126_8 : fdB Go.Proofs.Try.prog 126 8 = some (8, 123, 0 + 1) := by kernel_rfl
theorem fd126_9 : fdB Go.Proofs.Try.prog 126 9 = some (9, 124, 0 + 1) := by kernel_rfl
theorem fd126_10 : fdB Go.Proofs.Try.prog 126 10 = some (10, 125, 0 + 1) := by kernel_rfl
theorem ag127 : agB Go.Proofs.Try.prog 127 = some true := by kernel_rfl
theorem sz127 : szB Go.Proofs.Try.prog 127 = some 11 := by kernel_rfl
theorem by127 : byB Go.Proofs.Try.prog 127 = some 48 := by kernel_rfl
theorem zr127 : zrB Go.Proofs.Try.prog 127 = some (.agg #[(.int .u64 0), (.int .u64 0), (.int .u32 0), (.int .u8 0), (.int .u8 0), (.int .u8 0), (.int .u8 0), .nilFunc, (.pointer none), (.int .i32 0), (.int .i32 0)]) := by kernel_rfl
theorem fd127_0 : fdB Go.Proofs.Try.prog 127 0 = some (0, 12, 0 + 1) := by kernel_rfl
theorem fd127_1 : fdB Go.Proofs.Try.prog 127 1 = some (1, 12, 0 + 1) := by kernel_rfl
theorem fd127_2 : fdB Go.Proofs.Try.prog 127 2 = some (2, 101, 0 + 1) := by kernel_rfl
theorem fd127_3 : fdB Go.Proofs.Try.prog 127 3 = some (3, 120, 0 + 1) := by kernel_rfl
theorem fd127_4 : fdB Go.Proofs.Try.prog 127 4 = some (4, 5, 0 + 1) := by kernel_rfl
theorem fd127_5 : fdB Go.Proofs.Try.prog 127 5 = some (5, 5, 0 + 1) := by kernel_rfl
theorem fd127_6 : fdB Go.Proofs.Try.prog 127 6 = some (6, 121, 0 + 1) := by kernel_rfl
theorem fd127_8 : fdB Go.Proofs.Try.prog 127 8 = some (8, 123, 0 + 1) := by kernel_rfl
theorem fd127_9 : fdB Go.Proofs.Try.prog 127 9 = some (9, 124, 0 + 1) := by kernel_rfl
theorem fd127_10 : fdB Go.Proofs.Try.prog 127 10 = some (10, 125, 0 + 1) := by kernel_rfl
end T
end Go.Proofs.Ytdbiggfnnhmpiaa
