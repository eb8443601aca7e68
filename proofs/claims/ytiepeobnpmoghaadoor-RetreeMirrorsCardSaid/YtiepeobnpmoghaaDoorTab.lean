/- Closed facts on the types and functions of this seat, printed by a program. -/
import Derived.Test.YtiepeobnpmoghaaDoorOps
import Derived.Test.YtiepeobnpmoghaaDoorChecked
namespace Go.Proofs
open Go Go.Eng
set_option maxRecDepth 100000
theorem siz1 : Siz Tryd.prog 1 1 := by unfold Siz; kernel_rfl
theorem byt1 : Byt Tryd.prog 1 8 := by unfold Byt; kernel_rfl
theorem zer1 : Zer Tryd.prog 1 .nilFunc := by unfold Zer; kernel_rfl
theorem flat1 : flatB Tryd.prog 1 = true := by kernel_rfl
theorem siz2 : Siz Tryd.prog 2 1 := by unfold Siz; kernel_rfl
theorem byt2 : Byt Tryd.prog 2 8 := by unfold Byt; kernel_rfl
theorem zer2 : Zer Tryd.prog 2 (.int .i64 0) := by unfold Zer; kernel_rfl
theorem flat2 : flatB Tryd.prog 2 = true := by kernel_rfl
theorem siz3 : Siz Tryd.prog 3 1 := by unfold Siz; kernel_rfl
theorem byt3 : Byt Tryd.prog 3 8 := by unfold Byt; kernel_rfl
theorem zer3 : Zer Tryd.prog 3 (.int .i64 0) := by unfold Zer; kernel_rfl
theorem flat3 : flatB Tryd.prog 3 = true := by kernel_rfl
theorem siz4 : Siz Tryd.prog 4 1 := by unfold Siz; kernel_rfl
theorem byt4 : Byt Tryd.prog 4 1 := by unfold Byt; kernel_rfl
theorem zer4 : Zer Tryd.prog 4 (.bool false) := by unfold Zer; kernel_rfl
theorem flat4 : flatB Tryd.prog 4 = true := by kernel_rfl
theorem siz5 : Siz Tryd.prog 5 1 := by unfold Siz; kernel_rfl
theorem byt5 : Byt Tryd.prog 5 1 := by unfold Byt; kernel_rfl
theorem zer5 : Zer Tryd.prog 5 (.int .u8 0) := by unfold Zer; kernel_rfl
theorem flat5 : flatB Tryd.prog 5 = true := by kernel_rfl
theorem siz6 : Siz Tryd.prog 6 1 := by unfold Siz; kernel_rfl
theorem byt6 : Byt Tryd.prog 6 1 := by unfold Byt; kernel_rfl
theorem zer6 : Zer Tryd.prog 6 (.int .u8 0) := by unfold Zer; kernel_rfl
theorem flat6 : flatB Tryd.prog 6 = true := by kernel_rfl
theorem siz7 : Siz Tryd.prog 7 4 := by unfold Siz; kernel_rfl
theorem byt7 : Byt Tryd.prog 7 24 := by unfold Byt; kernel_rfl
theorem zer7 : Zer Tryd.prog 7 (.agg #[(.int .i64 0), (.int .i64 0), (.bool false), (.int .u8 0)]) := by unfold Zer; kernel_rfl
theorem agg7 : aggB Tryd.prog 7 = true := by kernel_rfl
theorem siz8 : Siz Tryd.prog 8 4 := by unfold Siz; kernel_rfl
theorem byt8 : Byt Tryd.prog 8 24 := by unfold Byt; kernel_rfl
theorem zer8 : Zer Tryd.prog 8 (.agg #[(.int .i64 0), (.int .i64 0), (.bool false), (.int .u8 0)]) := by unfold Zer; kernel_rfl
theorem agg8 : aggB Tryd.prog 8 = true := by kernel_rfl
theorem siz9 : Siz Tryd.prog 9 1 := by unfold Siz; kernel_rfl
theorem byt9 : Byt Tryd.prog 9 16 := by unfold Byt; kernel_rfl
theorem flat9 : flatB Tryd.prog 9 = true := by kernel_rfl
theorem siz10 : Siz Tryd.prog 10 1 := by unfold Siz; kernel_rfl
theorem byt10 : Byt Tryd.prog 10 16 := by unfold Byt; kernel_rfl
theorem flat10 : flatB Tryd.prog 10 = true := by kernel_rfl
theorem siz11 : Siz Tryd.prog 11 1 := by unfold Siz; kernel_rfl
theorem byt11 : Byt Tryd.prog 11 16 := by unfold Byt; kernel_rfl
theorem flat11 : flatB Tryd.prog 11 = true := by kernel_rfl
theorem siz12 : Siz Tryd.prog 12 1 := by unfold Siz; kernel_rfl
theorem byt12 : Byt Tryd.prog 12 8 := by unfold Byt; kernel_rfl
theorem zer12 : Zer Tryd.prog 12 (.int .u64 0) := by unfold Zer; kernel_rfl
theorem flat12 : flatB Tryd.prog 12 = true := by kernel_rfl
theorem siz13 : Siz Tryd.prog 13 2 := by unfold Siz; kernel_rfl
theorem byt13 : Byt Tryd.prog 13 24 := by unfold Byt; kernel_rfl
theorem agg13 : aggB Tryd.prog 13 = true := by kernel_rfl
theorem siz14 : Siz Tryd.prog 14 2 := by unfold Siz; kernel_rfl
theorem byt14 : Byt Tryd.prog 14 24 := by unfold Byt; kernel_rfl
theorem agg14 : aggB Tryd.prog 14 = true := by kernel_rfl
theorem siz15 : Siz Tryd.prog 15 1 := by unfold Siz; kernel_rfl
theorem byt15 : Byt Tryd.prog 15 8 := by unfold Byt; kernel_rfl
theorem zer15 : Zer Tryd.prog 15 (.pointer none) := by unfold Zer; kernel_rfl
theorem flat15 : flatB Tryd.prog 15 = true := by kernel_rfl
theorem siz16 : Siz Tryd.prog 16 1 := by unfold Siz; kernel_rfl
theorem byt16 : Byt Tryd.prog 16 8 := by unfold Byt; kernel_rfl
theorem zer16 : Zer Tryd.prog 16 (.pointer none) := by unfold Zer; kernel_rfl
theorem flat16 : flatB Tryd.prog 16 = true := by kernel_rfl
theorem siz17 : Siz Tryd.prog 17 1 := by unfold Siz; kernel_rfl
theorem byt17 : Byt Tryd.prog 17 8 := by unfold Byt; kernel_rfl
theorem zer17 : Zer Tryd.prog 17 (.pointer none) := by unfold Zer; kernel_rfl
theorem flat17 : flatB Tryd.prog 17 = true := by kernel_rfl
theorem siz18 : Siz Tryd.prog 18 1 := by unfold Siz; kernel_rfl
theorem byt18 : Byt Tryd.prog 18 8 := by unfold Byt; kernel_rfl
theorem zer18 : Zer Tryd.prog 18 (.agg #[(.pointer none)]) := by unfold Zer; kernel_rfl
theorem agg18 : aggB Tryd.prog 18 = true := by kernel_rfl
theorem siz19 : Siz Tryd.prog 19 1 := by unfold Siz; kernel_rfl
theorem byt19 : Byt Tryd.prog 19 8 := by unfold Byt; kernel_rfl
theorem zer19 : Zer Tryd.prog 19 (.agg #[(.pointer none)]) := by unfold Zer; kernel_rfl
theorem agg19 : aggB Tryd.prog 19 = true := by kernel_rfl
theorem siz20 : Siz Tryd.prog 20 1 := by unfold Siz; kernel_rfl
theorem byt20 : Byt Tryd.prog 20 16 := by unfold Byt; kernel_rfl
theorem zer20 : Zer Tryd.prog 20 .nilIface := by unfold Zer; kernel_rfl
theorem flat20 : flatB Tryd.prog 20 = true := by kernel_rfl
theorem siz21 : Siz Tryd.prog 21 1 := by unfold Siz; kernel_rfl
theorem byt21 : Byt Tryd.prog 21 4 := by unfold Byt; kernel_rfl
theorem zer21 : Zer Tryd.prog 21 (.int .i32 0) := by unfold Zer; kernel_rfl
theorem flat21 : flatB Tryd.prog 21 = true := by kernel_rfl
theorem siz22 : Siz Tryd.prog 22 1 := by unfold Siz; kernel_rfl
theorem byt22 : Byt Tryd.prog 22 24 := by unfold Byt; kernel_rfl
theorem zer22 : Zer Tryd.prog 22 (.slice none 0 0) := by unfold Zer; kernel_rfl
theorem flat22 : flatB Tryd.prog 22 = true := by kernel_rfl
theorem siz23 : Siz Tryd.prog 23 1 := by unfold Siz; kernel_rfl
theorem byt23 : Byt Tryd.prog 23 8 := by unfold Byt; kernel_rfl
theorem zer23 : Zer Tryd.prog 23 .nilFunc := by unfold Zer; kernel_rfl
theorem flat23 : flatB Tryd.prog 23 = true := by kernel_rfl
theorem siz24 : Siz Tryd.prog 24 1 := by unfold Siz; kernel_rfl
theorem byt24 : Byt Tryd.prog 24 24 := by unfold Byt; kernel_rfl
theorem zer24 : Zer Tryd.prog 24 (.slice none 0 0) := by unfold Zer; kernel_rfl
theorem flat24 : flatB Tryd.prog 24 = true := by kernel_rfl
theorem siz25 : Siz Tryd.prog 25 1 := by unfold Siz; kernel_rfl
theorem byt25 : Byt Tryd.prog 25 24 := by unfold Byt; kernel_rfl
theorem zer25 : Zer Tryd.prog 25 (.slice none 0 0) := by unfold Zer; kernel_rfl
theorem flat25 : flatB Tryd.prog 25 = true := by kernel_rfl
theorem siz26 : Siz Tryd.prog 26 6 := by unfold Siz; kernel_rfl
theorem byt26 : Byt Tryd.prog 26 80 := by unfold Byt; kernel_rfl
theorem zer26 : Zer Tryd.prog 26 (.agg #[(.int .i64 0), (.slice none 0 0), (.slice none 0 0), (.int .i64 0), (.int .i64 0), (.bool false)]) := by unfold Zer; kernel_rfl
theorem agg26 : aggB Tryd.prog 26 = true := by kernel_rfl
theorem siz27 : Siz Tryd.prog 27 6 := by unfold Siz; kernel_rfl
theorem byt27 : Byt Tryd.prog 27 80 := by unfold Byt; kernel_rfl
theorem zer27 : Zer Tryd.prog 27 (.agg #[(.int .i64 0), (.slice none 0 0), (.slice none 0 0), (.int .i64 0), (.int .i64 0), (.bool false)]) := by unfold Zer; kernel_rfl
theorem agg27 : aggB Tryd.prog 27 = true := by kernel_rfl
theorem siz28 : Siz Tryd.prog 28 1 := by unfold Siz; kernel_rfl
theorem byt28 : Byt Tryd.prog 28 8 := by unfold Byt; kernel_rfl
theorem zer28 : Zer Tryd.prog 28 .nilFunc := by unfold Zer; kernel_rfl
theorem flat28 : flatB Tryd.prog 28 = true := by kernel_rfl
theorem siz29 : Siz Tryd.prog 29 1 := by unfold Siz; kernel_rfl
theorem byt29 : Byt Tryd.prog 29 8 := by unfold Byt; kernel_rfl
theorem zer29 : Zer Tryd.prog 29 .nilFunc := by unfold Zer; kernel_rfl
theorem flat29 : flatB Tryd.prog 29 = true := by kernel_rfl
theorem siz30 : Siz Tryd.prog 30 1 := by unfold Siz; kernel_rfl
theorem byt30 : Byt Tryd.prog 30 8 := by unfold Byt; kernel_rfl
theorem zer30 : Zer Tryd.prog 30 .nilFunc := by unfold Zer; kernel_rfl
theorem flat30 : flatB Tryd.prog 30 = true := by kernel_rfl
theorem siz31 : Siz Tryd.prog 31 1 := by unfold Siz; kernel_rfl
theorem byt31 : Byt Tryd.prog 31 8 := by unfold Byt; kernel_rfl
theorem zer31 : Zer Tryd.prog 31 .nilFunc := by unfold Zer; kernel_rfl
theorem flat31 : flatB Tryd.prog 31 = true := by kernel_rfl
theorem siz32 : Siz Tryd.prog 32 1 := by unfold Siz; kernel_rfl
theorem byt32 : Byt Tryd.prog 32 8 := by unfold Byt; kernel_rfl
theorem zer32 : Zer Tryd.prog 32 .nilFunc := by unfold Zer; kernel_rfl
theorem flat32 : flatB Tryd.prog 32 = true := by kernel_rfl
theorem siz33 : Siz Tryd.prog 33 1 := by unfold Siz; kernel_rfl
theorem byt33 : Byt Tryd.prog 33 8 := by unfold Byt; kernel_rfl
theorem zer33 : Zer Tryd.prog 33 .nilFunc := by unfold Zer; kernel_rfl
theorem flat33 : flatB Tryd.prog 33 = true := by kernel_rfl
theorem siz34 : Siz Tryd.prog 34 1 := by unfold Siz; kernel_rfl
theorem byt34 : Byt Tryd.prog 34 8 := by unfold Byt; kernel_rfl
theorem zer34 : Zer Tryd.prog 34 .nilFunc := by unfold Zer; kernel_rfl
theorem flat34 : flatB Tryd.prog 34 = true := by kernel_rfl
theorem siz35 : Siz Tryd.prog 35 1 := by unfold Siz; kernel_rfl
theorem byt35 : Byt Tryd.prog 35 8 := by unfold Byt; kernel_rfl
theorem zer35 : Zer Tryd.prog 35 .nilFunc := by unfold Zer; kernel_rfl
theorem flat35 : flatB Tryd.prog 35 = true := by kernel_rfl
theorem siz36 : Siz Tryd.prog 36 1 := by unfold Siz; kernel_rfl
theorem byt36 : Byt Tryd.prog 36 8 := by unfold Byt; kernel_rfl
theorem zer36 : Zer Tryd.prog 36 .nilFunc := by unfold Zer; kernel_rfl
theorem flat36 : flatB Tryd.prog 36 = true := by kernel_rfl
theorem siz37 : Siz Tryd.prog 37 1 := by unfold Siz; kernel_rfl
theorem byt37 : Byt Tryd.prog 37 24 := by unfold Byt; kernel_rfl
theorem zer37 : Zer Tryd.prog 37 (.slice none 0 0) := by unfold Zer; kernel_rfl
theorem flat37 : flatB Tryd.prog 37 = true := by kernel_rfl
theorem siz38 : Siz Tryd.prog 38 1 := by unfold Siz; kernel_rfl
theorem byt38 : Byt Tryd.prog 38 8 := by unfold Byt; kernel_rfl
theorem zer38 : Zer Tryd.prog 38 (.int .i64 0) := by unfold Zer; kernel_rfl
theorem flat38 : flatB Tryd.prog 38 = true := by kernel_rfl
theorem siz40 : Siz Tryd.prog 40 1 := by unfold Siz; kernel_rfl
theorem byt40 : Byt Tryd.prog 40 8 := by unfold Byt; kernel_rfl
theorem zer40 : Zer Tryd.prog 40 .nilFunc := by unfold Zer; kernel_rfl
theorem flat40 : flatB Tryd.prog 40 = true := by kernel_rfl
theorem siz42 : Siz Tryd.prog 42 1 := by unfold Siz; kernel_rfl
theorem byt42 : Byt Tryd.prog 42 8 := by unfold Byt; kernel_rfl
theorem zer42 : Zer Tryd.prog 42 .nilFunc := by unfold Zer; kernel_rfl
theorem flat42 : flatB Tryd.prog 42 = true := by kernel_rfl
theorem siz43 : Siz Tryd.prog 43 2 := by unfold Siz; kernel_rfl
theorem byt43 : Byt Tryd.prog 43 16 := by unfold Byt; kernel_rfl
theorem zer43 : Zer Tryd.prog 43 (.agg #[(.int .i64 0), (.int .i64 0)]) := by unfold Zer; kernel_rfl
theorem agg43 : aggB Tryd.prog 43 = true := by kernel_rfl
theorem siz45 : Siz Tryd.prog 45 1 := by unfold Siz; kernel_rfl
theorem byt45 : Byt Tryd.prog 45 8 := by unfold Byt; kernel_rfl
theorem zer45 : Zer Tryd.prog 45 .nilFunc := by unfold Zer; kernel_rfl
theorem flat45 : flatB Tryd.prog 45 = true := by kernel_rfl
theorem siz46 : Siz Tryd.prog 46 1 := by unfold Siz; kernel_rfl
theorem byt46 : Byt Tryd.prog 46 8 := by unfold Byt; kernel_rfl
theorem zer46 : Zer Tryd.prog 46 .nilFunc := by unfold Zer; kernel_rfl
theorem flat46 : flatB Tryd.prog 46 = true := by kernel_rfl
theorem siz47 : Siz Tryd.prog 47 1 := by unfold Siz; kernel_rfl
theorem byt47 : Byt Tryd.prog 47 8 := by unfold Byt; kernel_rfl
theorem zer47 : Zer Tryd.prog 47 .nilFunc := by unfold Zer; kernel_rfl
theorem flat47 : flatB Tryd.prog 47 = true := by kernel_rfl
theorem siz48 : Siz Tryd.prog 48 1 := by unfold Siz; kernel_rfl
theorem byt48 : Byt Tryd.prog 48 8 := by unfold Byt; kernel_rfl
theorem zer48 : Zer Tryd.prog 48 .nilFunc := by unfold Zer; kernel_rfl
theorem flat48 : flatB Tryd.prog 48 = true := by kernel_rfl
theorem siz49 : Siz Tryd.prog 49 1 := by unfold Siz; kernel_rfl
theorem byt49 : Byt Tryd.prog 49 8 := by unfold Byt; kernel_rfl
theorem zer49 : Zer Tryd.prog 49 .nilFunc := by unfold Zer; kernel_rfl
theorem flat49 : flatB Tryd.prog 49 = true := by kernel_rfl
theorem siz50 : Siz Tryd.prog 50 1 := by unfold Siz; kernel_rfl
theorem byt50 : Byt Tryd.prog 50 8 := by unfold Byt; kernel_rfl
theorem zer50 : Zer Tryd.prog 50 .nilFunc := by unfold Zer; kernel_rfl
theorem flat50 : flatB Tryd.prog 50 = true := by kernel_rfl
theorem siz52 : Siz Tryd.prog 52 1 := by unfold Siz; kernel_rfl
theorem byt52 : Byt Tryd.prog 52 8 := by unfold Byt; kernel_rfl
theorem zer52 : Zer Tryd.prog 52 .nilFunc := by unfold Zer; kernel_rfl
theorem flat52 : flatB Tryd.prog 52 = true := by kernel_rfl
theorem siz53 : Siz Tryd.prog 53 1 := by unfold Siz; kernel_rfl
theorem byt53 : Byt Tryd.prog 53 8 := by unfold Byt; kernel_rfl
theorem zer53 : Zer Tryd.prog 53 .nilFunc := by unfold Zer; kernel_rfl
theorem flat53 : flatB Tryd.prog 53 = true := by kernel_rfl
theorem siz54 : Siz Tryd.prog 54 1 := by unfold Siz; kernel_rfl
theorem byt54 : Byt Tryd.prog 54 8 := by unfold Byt; kernel_rfl
theorem zer54 : Zer Tryd.prog 54 .nilFunc := by unfold Zer; kernel_rfl
theorem flat54 : flatB Tryd.prog 54 = true := by kernel_rfl
theorem siz55 : Siz Tryd.prog 55 1 := by unfold Siz; kernel_rfl
theorem byt55 : Byt Tryd.prog 55 8 := by unfold Byt; kernel_rfl
theorem zer55 : Zer Tryd.prog 55 .nilFunc := by unfold Zer; kernel_rfl
theorem flat55 : flatB Tryd.prog 55 = true := by kernel_rfl
theorem siz56 : Siz Tryd.prog 56 1 := by unfold Siz; kernel_rfl
theorem byt56 : Byt Tryd.prog 56 8 := by unfold Byt; kernel_rfl
theorem zer56 : Zer Tryd.prog 56 .nilFunc := by unfold Zer; kernel_rfl
theorem flat56 : flatB Tryd.prog 56 = true := by kernel_rfl
theorem siz57 : Siz Tryd.prog 57 1 := by unfold Siz; kernel_rfl
theorem byt57 : Byt Tryd.prog 57 8 := by unfold Byt; kernel_rfl
theorem zer57 : Zer Tryd.prog 57 .nilFunc := by unfold Zer; kernel_rfl
theorem flat57 : flatB Tryd.prog 57 = true := by kernel_rfl
theorem siz58 : Siz Tryd.prog 58 1 := by unfold Siz; kernel_rfl
theorem byt58 : Byt Tryd.prog 58 8 := by unfold Byt; kernel_rfl
theorem zer58 : Zer Tryd.prog 58 .nilFunc := by unfold Zer; kernel_rfl
theorem flat58 : flatB Tryd.prog 58 = true := by kernel_rfl
theorem siz59 : Siz Tryd.prog 59 1 := by unfold Siz; kernel_rfl
theorem byt59 : Byt Tryd.prog 59 8 := by unfold Byt; kernel_rfl
theorem zer59 : Zer Tryd.prog 59 .nilFunc := by unfold Zer; kernel_rfl
theorem flat59 : flatB Tryd.prog 59 = true := by kernel_rfl
theorem siz60 : Siz Tryd.prog 60 1 := by unfold Siz; kernel_rfl
theorem byt60 : Byt Tryd.prog 60 8 := by unfold Byt; kernel_rfl
theorem zer60 : Zer Tryd.prog 60 .nilFunc := by unfold Zer; kernel_rfl
theorem flat60 : flatB Tryd.prog 60 = true := by kernel_rfl
theorem siz61 : Siz Tryd.prog 61 1 := by unfold Siz; kernel_rfl
theorem byt61 : Byt Tryd.prog 61 8 := by unfold Byt; kernel_rfl
theorem zer61 : Zer Tryd.prog 61 (.pointer none) := by unfold Zer; kernel_rfl
theorem flat61 : flatB Tryd.prog 61 = true := by kernel_rfl
theorem siz62 : Siz Tryd.prog 62 1 := by unfold Siz; kernel_rfl
theorem byt62 : Byt Tryd.prog 62 24 := by unfold Byt; kernel_rfl
theorem zer62 : Zer Tryd.prog 62 (.agg #[(.slice none 0 0)]) := by unfold Zer; kernel_rfl
theorem agg62 : aggB Tryd.prog 62 = true := by kernel_rfl
theorem siz63 : Siz Tryd.prog 63 1 := by unfold Siz; kernel_rfl
theorem byt63 : Byt Tryd.prog 63 24 := by unfold Byt; kernel_rfl
theorem zer63 : Zer Tryd.prog 63 (.agg #[(.slice none 0 0)]) := by unfold Zer; kernel_rfl
theorem agg63 : aggB Tryd.prog 63 = true := by kernel_rfl
theorem siz64 : Siz Tryd.prog 64 1 := by unfold Siz; kernel_rfl
theorem byt64 : Byt Tryd.prog 64 8 := by unfold Byt; kernel_rfl
theorem zer64 : Zer Tryd.prog 64 .nilFunc := by unfold Zer; kernel_rfl
theorem flat64 : flatB Tryd.prog 64 = true := by kernel_rfl
theorem siz65 : Siz Tryd.prog 65 1 := by unfold Siz; kernel_rfl
theorem byt65 : Byt Tryd.prog 65 8 := by unfold Byt; kernel_rfl
theorem zer65 : Zer Tryd.prog 65 .nilFunc := by unfold Zer; kernel_rfl
theorem flat65 : flatB Tryd.prog 65 = true := by kernel_rfl
theorem siz66 : Siz Tryd.prog 66 1 := by unfold Siz; kernel_rfl
theorem byt66 : Byt Tryd.prog 66 8 := by unfold Byt; kernel_rfl
theorem zer66 : Zer Tryd.prog 66 .nilFunc := by unfold Zer; kernel_rfl
theorem flat66 : flatB Tryd.prog 66 = true := by kernel_rfl
theorem siz67 : Siz Tryd.prog 67 1 := by unfold Siz; kernel_rfl
theorem byt67 : Byt Tryd.prog 67 8 := by unfold Byt; kernel_rfl
theorem zer67 : Zer Tryd.prog 67 .nilFunc := by unfold Zer; kernel_rfl
theorem flat67 : flatB Tryd.prog 67 = true := by kernel_rfl
theorem siz68 : Siz Tryd.prog 68 1 := by unfold Siz; kernel_rfl
theorem byt68 : Byt Tryd.prog 68 8 := by unfold Byt; kernel_rfl
theorem zer68 : Zer Tryd.prog 68 (.pointer none) := by unfold Zer; kernel_rfl
theorem flat68 : flatB Tryd.prog 68 = true := by kernel_rfl
theorem siz69 : Siz Tryd.prog 69 1 := by unfold Siz; kernel_rfl
theorem byt69 : Byt Tryd.prog 69 8 := by unfold Byt; kernel_rfl
theorem zer69 : Zer Tryd.prog 69 .nilFunc := by unfold Zer; kernel_rfl
theorem flat69 : flatB Tryd.prog 69 = true := by kernel_rfl
theorem siz70 : Siz Tryd.prog 70 1 := by unfold Siz; kernel_rfl
theorem byt70 : Byt Tryd.prog 70 4 := by unfold Byt; kernel_rfl
theorem zer70 : Zer Tryd.prog 70 (.int .u32 0) := by unfold Zer; kernel_rfl
theorem flat70 : flatB Tryd.prog 70 = true := by kernel_rfl
theorem siz71 : Siz Tryd.prog 71 1 := by unfold Siz; kernel_rfl
theorem byt71 : Byt Tryd.prog 71 8 := by unfold Byt; kernel_rfl
theorem zer71 : Zer Tryd.prog 71 .nilFunc := by unfold Zer; kernel_rfl
theorem flat71 : flatB Tryd.prog 71 = true := by kernel_rfl
theorem siz72 : Siz Tryd.prog 72 1 := by unfold Siz; kernel_rfl
theorem byt72 : Byt Tryd.prog 72 8 := by unfold Byt; kernel_rfl
theorem zer72 : Zer Tryd.prog 72 .nilFunc := by unfold Zer; kernel_rfl
theorem flat72 : flatB Tryd.prog 72 = true := by kernel_rfl
theorem siz73 : Siz Tryd.prog 73 1 := by unfold Siz; kernel_rfl
theorem byt73 : Byt Tryd.prog 73 8 := by unfold Byt; kernel_rfl
theorem zer73 : Zer Tryd.prog 73 .nilFunc := by unfold Zer; kernel_rfl
theorem flat73 : flatB Tryd.prog 73 = true := by kernel_rfl
theorem siz74 : Siz Tryd.prog 74 1 := by unfold Siz; kernel_rfl
theorem byt74 : Byt Tryd.prog 74 8 := by unfold Byt; kernel_rfl
theorem zer74 : Zer Tryd.prog 74 .nilFunc := by unfold Zer; kernel_rfl
theorem flat74 : flatB Tryd.prog 74 = true := by kernel_rfl
theorem siz75 : Siz Tryd.prog 75 1 := by unfold Siz; kernel_rfl
theorem byt75 : Byt Tryd.prog 75 8 := by unfold Byt; kernel_rfl
theorem zer75 : Zer Tryd.prog 75 .nilFunc := by unfold Zer; kernel_rfl
theorem flat75 : flatB Tryd.prog 75 = true := by kernel_rfl
theorem siz76 : Siz Tryd.prog 76 1 := by unfold Siz; kernel_rfl
theorem byt76 : Byt Tryd.prog 76 8 := by unfold Byt; kernel_rfl
theorem zer76 : Zer Tryd.prog 76 .nilFunc := by unfold Zer; kernel_rfl
theorem flat76 : flatB Tryd.prog 76 = true := by kernel_rfl
theorem siz77 : Siz Tryd.prog 77 1 := by unfold Siz; kernel_rfl
theorem byt77 : Byt Tryd.prog 77 24 := by unfold Byt; kernel_rfl
theorem zer77 : Zer Tryd.prog 77 (.slice none 0 0) := by unfold Zer; kernel_rfl
theorem flat77 : flatB Tryd.prog 77 = true := by kernel_rfl
theorem siz78 : Siz Tryd.prog 78 1 := by unfold Siz; kernel_rfl
theorem byt78 : Byt Tryd.prog 78 8 := by unfold Byt; kernel_rfl
theorem zer78 : Zer Tryd.prog 78 .nilFunc := by unfold Zer; kernel_rfl
theorem flat78 : flatB Tryd.prog 78 = true := by kernel_rfl
theorem siz79 : Siz Tryd.prog 79 1 := by unfold Siz; kernel_rfl
theorem byt79 : Byt Tryd.prog 79 8 := by unfold Byt; kernel_rfl
theorem zer79 : Zer Tryd.prog 79 .nilFunc := by unfold Zer; kernel_rfl
theorem flat79 : flatB Tryd.prog 79 = true := by kernel_rfl
theorem siz80 : Siz Tryd.prog 80 1 := by unfold Siz; kernel_rfl
theorem byt80 : Byt Tryd.prog 80 8 := by unfold Byt; kernel_rfl
theorem zer80 : Zer Tryd.prog 80 .nilFunc := by unfold Zer; kernel_rfl
theorem flat80 : flatB Tryd.prog 80 = true := by kernel_rfl
theorem siz81 : Siz Tryd.prog 81 2 := by unfold Siz; kernel_rfl
theorem byt81 : Byt Tryd.prog 81 16 := by unfold Byt; kernel_rfl
theorem zer81 : Zer Tryd.prog 81 (.agg #[(.int .i64 0), (.int .i64 0)]) := by unfold Zer; kernel_rfl
theorem agg81 : aggB Tryd.prog 81 = true := by kernel_rfl
theorem siz82 : Siz Tryd.prog 82 2 := by unfold Siz; kernel_rfl
theorem byt82 : Byt Tryd.prog 82 16 := by unfold Byt; kernel_rfl
theorem zer82 : Zer Tryd.prog 82 (.agg #[(.int .i64 0), (.int .i64 0)]) := by unfold Zer; kernel_rfl
theorem agg82 : aggB Tryd.prog 82 = true := by kernel_rfl
theorem siz83 : Siz Tryd.prog 83 1 := by unfold Siz; kernel_rfl
theorem byt83 : Byt Tryd.prog 83 8 := by unfold Byt; kernel_rfl
theorem zer83 : Zer Tryd.prog 83 .nilFunc := by unfold Zer; kernel_rfl
theorem flat83 : flatB Tryd.prog 83 = true := by kernel_rfl
theorem siz84 : Siz Tryd.prog 84 1 := by unfold Siz; kernel_rfl
theorem byt84 : Byt Tryd.prog 84 8 := by unfold Byt; kernel_rfl
theorem zer84 : Zer Tryd.prog 84 .nilFunc := by unfold Zer; kernel_rfl
theorem flat84 : flatB Tryd.prog 84 = true := by kernel_rfl
theorem siz85 : Siz Tryd.prog 85 1 := by unfold Siz; kernel_rfl
theorem byt85 : Byt Tryd.prog 85 8 := by unfold Byt; kernel_rfl
theorem zer85 : Zer Tryd.prog 85 .nilFunc := by unfold Zer; kernel_rfl
theorem flat85 : flatB Tryd.prog 85 = true := by kernel_rfl
theorem siz86 : Siz Tryd.prog 86 1 := by unfold Siz; kernel_rfl
theorem byt86 : Byt Tryd.prog 86 8 := by unfold Byt; kernel_rfl
theorem zer86 : Zer Tryd.prog 86 .nilFunc := by unfold Zer; kernel_rfl
theorem flat86 : flatB Tryd.prog 86 = true := by kernel_rfl
theorem siz87 : Siz Tryd.prog 87 1 := by unfold Siz; kernel_rfl
theorem byt87 : Byt Tryd.prog 87 8 := by unfold Byt; kernel_rfl
theorem zer87 : Zer Tryd.prog 87 .nilFunc := by unfold Zer; kernel_rfl
theorem flat87 : flatB Tryd.prog 87 = true := by kernel_rfl
theorem siz88 : Siz Tryd.prog 88 1 := by unfold Siz; kernel_rfl
theorem byt88 : Byt Tryd.prog 88 8 := by unfold Byt; kernel_rfl
theorem zer88 : Zer Tryd.prog 88 .nilFunc := by unfold Zer; kernel_rfl
theorem flat88 : flatB Tryd.prog 88 = true := by kernel_rfl
theorem siz89 : Siz Tryd.prog 89 1 := by unfold Siz; kernel_rfl
theorem byt89 : Byt Tryd.prog 89 24 := by unfold Byt; kernel_rfl
theorem zer89 : Zer Tryd.prog 89 (.slice none 0 0) := by unfold Zer; kernel_rfl
theorem flat89 : flatB Tryd.prog 89 = true := by kernel_rfl
theorem siz90 : Siz Tryd.prog 90 25 := by unfold Siz; kernel_rfl
theorem byt90 : Byt Tryd.prog 90 100 := by unfold Byt; kernel_rfl
theorem zer90 : Zer Tryd.prog 90 (.agg #[(.int .u32 0), (.int .u32 0), (.int .u32 0), (.int .u32 0), (.int .u32 0), (.int .u32 0), (.int .u32 0), (.int .u32 0), (.int .u32 0), (.int .u32 0), (.int .u32 0), (.int .u32 0), (.int .u32 0), (.int .u32 0), (.int .u32 0), (.int .u32 0), (.int .u32 0), (.int .u32 0), (.int .u32 0), (.int .u32 0), (.int .u32 0), (.int .u32 0), (.int .u32 0), (.int .u32 0), (.int .u32 0)]) := by unfold Zer; kernel_rfl
theorem agg90 : aggB Tryd.prog 90 = true := by kernel_rfl
theorem siz91 : Siz Tryd.prog 91 25 := by unfold Siz; kernel_rfl
theorem byt91 : Byt Tryd.prog 91 100 := by unfold Byt; kernel_rfl
theorem zer91 : Zer Tryd.prog 91 (.agg #[(.int .u32 0), (.int .u32 0), (.int .u32 0), (.int .u32 0), (.int .u32 0), (.int .u32 0), (.int .u32 0), (.int .u32 0), (.int .u32 0), (.int .u32 0), (.int .u32 0), (.int .u32 0), (.int .u32 0), (.int .u32 0), (.int .u32 0), (.int .u32 0), (.int .u32 0), (.int .u32 0), (.int .u32 0), (.int .u32 0), (.int .u32 0), (.int .u32 0), (.int .u32 0), (.int .u32 0), (.int .u32 0)]) := by unfold Zer; kernel_rfl
theorem agg91 : aggB Tryd.prog 91 = true := by kernel_rfl
theorem siz92 : Siz Tryd.prog 92 1 := by unfold Siz; kernel_rfl
theorem byt92 : Byt Tryd.prog 92 8 := by unfold Byt; kernel_rfl
theorem zer92 : Zer Tryd.prog 92 .nilFunc := by unfold Zer; kernel_rfl
theorem flat92 : flatB Tryd.prog 92 = true := by kernel_rfl
theorem siz93 : Siz Tryd.prog 93 1 := by unfold Siz; kernel_rfl
theorem byt93 : Byt Tryd.prog 93 8 := by unfold Byt; kernel_rfl
theorem zer93 : Zer Tryd.prog 93 .nilFunc := by unfold Zer; kernel_rfl
theorem flat93 : flatB Tryd.prog 93 = true := by kernel_rfl
theorem siz94 : Siz Tryd.prog 94 1 := by unfold Siz; kernel_rfl
theorem byt94 : Byt Tryd.prog 94 8 := by unfold Byt; kernel_rfl
theorem zer94 : Zer Tryd.prog 94 .nilFunc := by unfold Zer; kernel_rfl
theorem flat94 : flatB Tryd.prog 94 = true := by kernel_rfl
theorem siz95 : Siz Tryd.prog 95 32 := by unfold Siz; kernel_rfl
theorem byt95 : Byt Tryd.prog 95 32 := by unfold Byt; kernel_rfl
theorem zer95 : Zer Tryd.prog 95 (.agg #[(.int .u8 0), (.int .u8 0), (.int .u8 0), (.int .u8 0), (.int .u8 0), (.int .u8 0), (.int .u8 0), (.int .u8 0), (.int .u8 0), (.int .u8 0), (.int .u8 0), (.int .u8 0), (.int .u8 0), (.int .u8 0), (.int .u8 0), (.int .u8 0), (.int .u8 0), (.int .u8 0), (.int .u8 0), (.int .u8 0), (.int .u8 0), (.int .u8 0), (.int .u8 0), (.int .u8 0), (.int .u8 0), (.int .u8 0), (.int .u8 0), (.int .u8 0), (.int .u8 0), (.int .u8 0), (.int .u8 0), (.int .u8 0)]) := by unfold Zer; kernel_rfl
theorem agg95 : aggB Tryd.prog 95 = true := by kernel_rfl
theorem siz96 : Siz Tryd.prog 96 1 := by unfold Siz; kernel_rfl
theorem byt96 : Byt Tryd.prog 96 8 := by unfold Byt; kernel_rfl
theorem zer96 : Zer Tryd.prog 96 (.int .u64 0) := by unfold Zer; kernel_rfl
theorem flat96 : flatB Tryd.prog 96 = true := by kernel_rfl
theorem siz97 : Siz Tryd.prog 97 1 := by unfold Siz; kernel_rfl
theorem byt97 : Byt Tryd.prog 97 8 := by unfold Byt; kernel_rfl
theorem zer97 : Zer Tryd.prog 97 .nilFunc := by unfold Zer; kernel_rfl
theorem flat97 : flatB Tryd.prog 97 = true := by kernel_rfl
theorem siz98 : Siz Tryd.prog 98 1 := by unfold Siz; kernel_rfl
theorem byt98 : Byt Tryd.prog 98 8 := by unfold Byt; kernel_rfl
theorem zer98 : Zer Tryd.prog 98 .nilFunc := by unfold Zer; kernel_rfl
theorem flat98 : flatB Tryd.prog 98 = true := by kernel_rfl
theorem siz99 : Siz Tryd.prog 99 1 := by unfold Siz; kernel_rfl
theorem byt99 : Byt Tryd.prog 99 8 := by unfold Byt; kernel_rfl
theorem zer99 : Zer Tryd.prog 99 .nilFunc := by unfold Zer; kernel_rfl
theorem flat99 : flatB Tryd.prog 99 = true := by kernel_rfl
theorem siz100 : Siz Tryd.prog 100 1 := by unfold Siz; kernel_rfl
theorem byt100 : Byt Tryd.prog 100 8 := by unfold Byt; kernel_rfl
theorem zer100 : Zer Tryd.prog 100 .nilFunc := by unfold Zer; kernel_rfl
theorem flat100 : flatB Tryd.prog 100 = true := by kernel_rfl
theorem siz101 : Siz Tryd.prog 101 1 := by unfold Siz; kernel_rfl
theorem byt101 : Byt Tryd.prog 101 8 := by unfold Byt; kernel_rfl
theorem zer101 : Zer Tryd.prog 101 .nilFunc := by unfold Zer; kernel_rfl
theorem flat101 : flatB Tryd.prog 101 = true := by kernel_rfl
theorem siz102 : Siz Tryd.prog 102 1 := by unfold Siz; kernel_rfl
theorem byt102 : Byt Tryd.prog 102 8 := by unfold Byt; kernel_rfl
theorem zer102 : Zer Tryd.prog 102 .nilFunc := by unfold Zer; kernel_rfl
theorem flat102 : flatB Tryd.prog 102 = true := by kernel_rfl
theorem siz103 : Siz Tryd.prog 103 1 := by unfold Siz; kernel_rfl
theorem byt103 : Byt Tryd.prog 103 8 := by unfold Byt; kernel_rfl
theorem zer103 : Zer Tryd.prog 103 .nilFunc := by unfold Zer; kernel_rfl
theorem flat103 : flatB Tryd.prog 103 = true := by kernel_rfl
theorem siz104 : Siz Tryd.prog 104 1 := by unfold Siz; kernel_rfl
theorem byt104 : Byt Tryd.prog 104 8 := by unfold Byt; kernel_rfl
theorem zer104 : Zer Tryd.prog 104 .nilFunc := by unfold Zer; kernel_rfl
theorem flat104 : flatB Tryd.prog 104 = true := by kernel_rfl
theorem siz105 : Siz Tryd.prog 105 1 := by unfold Siz; kernel_rfl
theorem byt105 : Byt Tryd.prog 105 8 := by unfold Byt; kernel_rfl
theorem zer105 : Zer Tryd.prog 105 .nilFunc := by unfold Zer; kernel_rfl
theorem flat105 : flatB Tryd.prog 105 = true := by kernel_rfl
theorem siz106 : Siz Tryd.prog 106 1 := by unfold Siz; kernel_rfl
theorem byt106 : Byt Tryd.prog 106 8 := by unfold Byt; kernel_rfl
theorem zer106 : Zer Tryd.prog 106 .nilFunc := by unfold Zer; kernel_rfl
theorem flat106 : flatB Tryd.prog 106 = true := by kernel_rfl
theorem siz107 : Siz Tryd.prog 107 1 := by unfold Siz; kernel_rfl
theorem byt107 : Byt Tryd.prog 107 8 := by unfold Byt; kernel_rfl
theorem zer107 : Zer Tryd.prog 107 .nilFunc := by unfold Zer; kernel_rfl
theorem flat107 : flatB Tryd.prog 107 = true := by kernel_rfl
theorem siz108 : Siz Tryd.prog 108 1 := by unfold Siz; kernel_rfl
theorem byt108 : Byt Tryd.prog 108 8 := by unfold Byt; kernel_rfl
theorem zer108 : Zer Tryd.prog 108 .nilFunc := by unfold Zer; kernel_rfl
theorem flat108 : flatB Tryd.prog 108 = true := by kernel_rfl
theorem siz109 : Siz Tryd.prog 109 1 := by unfold Siz; kernel_rfl
theorem byt109 : Byt Tryd.prog 109 8 := by unfold Byt; kernel_rfl
theorem zer109 : Zer Tryd.prog 109 .nilFunc := by unfold Zer; kernel_rfl
theorem flat109 : flatB Tryd.prog 109 = true := by kernel_rfl
theorem siz110 : Siz Tryd.prog 110 1 := by unfold Siz; kernel_rfl
theorem byt110 : Byt Tryd.prog 110 8 := by unfold Byt; kernel_rfl
theorem zer110 : Zer Tryd.prog 110 .nilFunc := by unfold Zer; kernel_rfl
theorem flat110 : flatB Tryd.prog 110 = true := by kernel_rfl
theorem siz111 : Siz Tryd.prog 111 1 := by unfold Siz; kernel_rfl
theorem byt111 : Byt Tryd.prog 111 8 := by unfold Byt; kernel_rfl
theorem zer111 : Zer Tryd.prog 111 .nilFunc := by unfold Zer; kernel_rfl
theorem flat111 : flatB Tryd.prog 111 = true := by kernel_rfl
theorem siz112 : Siz Tryd.prog 112 1 := by unfold Siz; kernel_rfl
theorem byt112 : Byt Tryd.prog 112 8 := by unfold Byt; kernel_rfl
theorem zer112 : Zer Tryd.prog 112 .nilFunc := by unfold Zer; kernel_rfl
theorem flat112 : flatB Tryd.prog 112 = true := by kernel_rfl
theorem siz113 : Siz Tryd.prog 113 1 := by unfold Siz; kernel_rfl
theorem byt113 : Byt Tryd.prog 113 8 := by unfold Byt; kernel_rfl
theorem zer113 : Zer Tryd.prog 113 .nilFunc := by unfold Zer; kernel_rfl
theorem flat113 : flatB Tryd.prog 113 = true := by kernel_rfl
theorem siz114 : Siz Tryd.prog 114 1 := by unfold Siz; kernel_rfl
theorem byt114 : Byt Tryd.prog 114 8 := by unfold Byt; kernel_rfl
theorem zer114 : Zer Tryd.prog 114 .nilFunc := by unfold Zer; kernel_rfl
theorem flat114 : flatB Tryd.prog 114 = true := by kernel_rfl
theorem siz115 : Siz Tryd.prog 115 1 := by unfold Siz; kernel_rfl
theorem byt115 : Byt Tryd.prog 115 8 := by unfold Byt; kernel_rfl
theorem zer115 : Zer Tryd.prog 115 .nilFunc := by unfold Zer; kernel_rfl
theorem flat115 : flatB Tryd.prog 115 = true := by kernel_rfl
theorem siz116 : Siz Tryd.prog 116 4 := by unfold Siz; kernel_rfl
theorem byt116 : Byt Tryd.prog 116 40 := by unfold Byt; kernel_rfl
theorem agg116 : aggB Tryd.prog 116 = true := by kernel_rfl
theorem siz117 : Siz Tryd.prog 117 4 := by unfold Siz; kernel_rfl
theorem byt117 : Byt Tryd.prog 117 40 := by unfold Byt; kernel_rfl
theorem agg117 : aggB Tryd.prog 117 = true := by kernel_rfl
theorem siz121 : Siz Tryd.prog 121 1 := by unfold Siz; kernel_rfl
theorem byt121 : Byt Tryd.prog 121 8 := by unfold Byt; kernel_rfl
theorem zer121 : Zer Tryd.prog 121 .nilFunc := by unfold Zer; kernel_rfl
theorem flat121 : flatB Tryd.prog 121 = true := by kernel_rfl
theorem siz122 : Siz Tryd.prog 122 1 := by unfold Siz; kernel_rfl
theorem byt122 : Byt Tryd.prog 122 1 := by unfold Byt; kernel_rfl
theorem zer122 : Zer Tryd.prog 122 (.int .u8 0) := by unfold Zer; kernel_rfl
theorem flat122 : flatB Tryd.prog 122 = true := by kernel_rfl
theorem siz123 : Siz Tryd.prog 123 1 := by unfold Siz; kernel_rfl
theorem byt123 : Byt Tryd.prog 123 1 := by unfold Byt; kernel_rfl
theorem zer123 : Zer Tryd.prog 123 (.int .u8 0) := by unfold Zer; kernel_rfl
theorem flat123 : flatB Tryd.prog 123 = true := by kernel_rfl
theorem siz124 : Siz Tryd.prog 124 1 := by unfold Siz; kernel_rfl
theorem byt124 : Byt Tryd.prog 124 8 := by unfold Byt; kernel_rfl
theorem zer124 : Zer Tryd.prog 124 .nilFunc := by unfold Zer; kernel_rfl
theorem flat124 : flatB Tryd.prog 124 = true := by kernel_rfl
theorem siz125 : Siz Tryd.prog 125 1 := by unfold Siz; kernel_rfl
theorem byt125 : Byt Tryd.prog 125 8 := by unfold Byt; kernel_rfl
theorem zer125 : Zer Tryd.prog 125 (.pointer none) := by unfold Zer; kernel_rfl
theorem flat125 : flatB Tryd.prog 125 = true := by kernel_rfl
theorem siz126 : Siz Tryd.prog 126 1 := by unfold Siz; kernel_rfl
theorem byt126 : Byt Tryd.prog 126 4 := by unfold Byt; kernel_rfl
theorem zer126 : Zer Tryd.prog 126 (.int .i32 0) := by unfold Zer; kernel_rfl
theorem flat126 : flatB Tryd.prog 126 = true := by kernel_rfl
theorem siz127 : Siz Tryd.prog 127 1 := by unfold Siz; kernel_rfl
theorem byt127 : Byt Tryd.prog 127 4 := by unfold Byt; kernel_rfl
theorem zer127 : Zer Tryd.prog 127 (.int .i32 0) := by unfold Zer; kernel_rfl
theorem flat127 : flatB Tryd.prog 127 = true := by kernel_rfl
theorem siz128 : Siz Tryd.prog 128 11 := by unfold Siz; kernel_rfl
theorem byt128 : Byt Tryd.prog 128 48 := by unfold Byt; kernel_rfl
theorem zer128 : Zer Tryd.prog 128 (.agg #[(.int .u64 0), (.int .u64 0), (.int .u32 0), (.int .u8 0), (.int .u8 0), (.int .u8 0), (.int .u8 0), .nilFunc, (.pointer none), (.int .i32 0), (.int .i32 0)]) := by unfold Zer; kernel_rfl
theorem agg128 : aggB Tryd.prog 128 = true := by kernel_rfl
theorem siz129 : Siz Tryd.prog 129 11 := by unfold Siz; kernel_rfl
theorem byt129 : Byt Tryd.prog 129 48 := by unfold Byt; kernel_rfl
theorem zer129 : Zer Tryd.prog 129 (.agg #[(.int .u64 0), (.int .u64 0), (.int .u32 0), (.int .u8 0), (.int .u8 0), (.int .u8 0), (.int .u8 0), .nilFunc, (.pointer none), (.int .i32 0), (.int .i32 0)]) := by unfold Zer; kernel_rfl
theorem agg129 : aggB Tryd.prog 129 = true := by kernel_rfl
theorem nm2 : (Tryd.f2.name == "runtime.NumGoroutine") = false := by kernel_rfl
theorem bd2 : Tryd.f2.body.isNone = false := by kernel_rfl
theorem nm3 : (Tryd.f3.name == "runtime.NumGoroutine") = false := by kernel_rfl
theorem bd3 : Tryd.f3.body.isNone = false := by kernel_rfl
theorem nm4 : (Tryd.f4.name == "runtime.NumGoroutine") = false := by kernel_rfl
theorem bd4 : Tryd.f4.body.isNone = false := by kernel_rfl
theorem nm5 : (Tryd.f5.name == "runtime.NumGoroutine") = false := by kernel_rfl
theorem bd5 : Tryd.f5.body.isNone = false := by kernel_rfl
theorem nm6 : (Tryd.f6.name == "runtime.NumGoroutine") = false := by kernel_rfl
theorem bd6 : Tryd.f6.body.isNone = false := by kernel_rfl
theorem nm7 : (Tryd.f7.name == "runtime.NumGoroutine") = false := by kernel_rfl
theorem bd7 : Tryd.f7.body.isNone = false := by kernel_rfl
theorem nm8 : (Tryd.f8.name == "runtime.NumGoroutine") = false := by kernel_rfl
theorem bd8 : Tryd.f8.body.isNone = false := by kernel_rfl
theorem nm9 : (Tryd.f9.name == "runtime.NumGoroutine") = false := by kernel_rfl
theorem bd9 : Tryd.f9.body.isNone = false := by kernel_rfl
theorem nm10 : (Tryd.f10.name == "runtime.NumGoroutine") = false := by kernel_rfl
theorem bd10 : Tryd.f10.body.isNone = false := by kernel_rfl
theorem nm11 : (Tryd.f11.name == "runtime.NumGoroutine") = false := by kernel_rfl
theorem bd11 : Tryd.f11.body.isNone = false := by kernel_rfl
theorem nm12 : (Tryd.f12.name == "runtime.NumGoroutine") = false := by kernel_rfl
theorem bd12 : Tryd.f12.body.isNone = false := by kernel_rfl
theorem nm13 : (Tryd.f13.name == "runtime.NumGoroutine") = false := by kernel_rfl
theorem bd13 : Tryd.f13.body.isNone = false := by kernel_rfl
theorem nm14 : (Tryd.f14.name == "runtime.NumGoroutine") = false := by kernel_rfl
theorem bd14 : Tryd.f14.body.isNone = false := by kernel_rfl
theorem nm15 : (Tryd.f15.name == "runtime.NumGoroutine") = false := by kernel_rfl
theorem bd15 : Tryd.f15.body.isNone = false := by kernel_rfl
theorem nm16 : (Tryd.f16.name == "runtime.NumGoroutine") = false := by kernel_rfl
theorem bd16 : Tryd.f16.body.isNone = false := by kernel_rfl
theorem nm17 : (Tryd.f17.name == "runtime.NumGoroutine") = false := by kernel_rfl
theorem bd17 : Tryd.f17.body.isNone = false := by kernel_rfl
theorem nm18 : (Tryd.f18.name == "runtime.NumGoroutine") = false := by kernel_rfl
theorem bd18 : Tryd.f18.body.isNone = false := by kernel_rfl
theorem nm19 : (Tryd.f19.name == "runtime.NumGoroutine") = false := by kernel_rfl
theorem bd19 : Tryd.f19.body.isNone = false := by kernel_rfl
theorem nm20 : (Tryd.f20.name == "runtime.NumGoroutine") = false := by kernel_rfl
theorem bd20 : Tryd.f20.body.isNone = false := by kernel_rfl
theorem nm21 : (Tryd.f21.name == "runtime.NumGoroutine") = false := by kernel_rfl
theorem bd21 : Tryd.f21.body.isNone = false := by kernel_rfl
theorem nm22 : (Tryd.f22.name == "runtime.NumGoroutine") = false := by kernel_rfl
theorem bd22 : Tryd.f22.body.isNone = false := by kernel_rfl
theorem nm23 : (Tryd.f23.name == "runtime.NumGoroutine") = false := by kernel_rfl
theorem bd23 : Tryd.f23.body.isNone = false := by kernel_rfl
theorem nm24 : (Tryd.f24.name == "runtime.NumGoroutine") = false := by kernel_rfl
theorem bd24 : Tryd.f24.body.isNone = false := by kernel_rfl
theorem nm25 : (Tryd.f25.name == "runtime.NumGoroutine") = false := by kernel_rfl
theorem bd25 : Tryd.f25.body.isNone = false := by kernel_rfl
theorem nm26 : (Tryd.f26.name == "runtime.NumGoroutine") = false := by kernel_rfl
theorem bd26 : Tryd.f26.body.isNone = false := by kernel_rfl
theorem nm27 : (Tryd.f27.name == "runtime.NumGoroutine") = false := by kernel_rfl
theorem bd27 : Tryd.f27.body.isNone = false := by kernel_rfl
theorem nm28 : (Tryd.f28.name == "runtime.NumGoroutine") = false := by kernel_rfl
theorem bd28 : Tryd.f28.body.isNone = false := by kernel_rfl
theorem nm29 : (Tryd.f29.name == "runtime.NumGoroutine") = false := by kernel_rfl
theorem bd29 : Tryd.f29.body.isNone = false := by kernel_rfl
theorem nm30 : (Tryd.f30.name == "runtime.NumGoroutine") = false := by kernel_rfl
theorem bd30 : Tryd.f30.body.isNone = false := by kernel_rfl
theorem nm31 : (Tryd.f31.name == "runtime.NumGoroutine") = false := by kernel_rfl
theorem bd31 : Tryd.f31.body.isNone = false := by kernel_rfl
theorem nm32 : (Tryd.f32.name == "runtime.NumGoroutine") = false := by kernel_rfl
theorem bd32 : Tryd.f32.body.isNone = false := by kernel_rfl
theorem nm33 : (Tryd.f33.name == "runtime.NumGoroutine") = false := by kernel_rfl
theorem bd33 : Tryd.f33.body.isNone = false := by kernel_rfl
theorem nm34 : (Tryd.f34.name == "runtime.NumGoroutine") = false := by kernel_rfl
theorem bd34 : Tryd.f34.body.isNone = false := by kernel_rfl
theorem nm35 : (Tryd.f35.name == "runtime.NumGoroutine") = false := by kernel_rfl
theorem bd35 : Tryd.f35.body.isNone = false := by kernel_rfl
theorem nm36 : (Tryd.f36.name == "runtime.NumGoroutine") = false := by kernel_rfl
theorem bd36 : Tryd.f36.body.isNone = false := by kernel_rfl
theorem nm37 : (Tryd.f37.name == "runtime.NumGoroutine") = false := by kernel_rfl
theorem bd37 : Tryd.f37.body.isNone = false := by kernel_rfl
theorem nm38 : (Tryd.f38.name == "runtime.NumGoroutine") = false := by kernel_rfl
theorem bd38 : Tryd.f38.body.isNone = false := by kernel_rfl
theorem nm39 : (Tryd.f39.name == "runtime.NumGoroutine") = false := by kernel_rfl
theorem bd39 : Tryd.f39.body.isNone = false := by kernel_rfl
theorem nm40 : (Tryd.f40.name == "runtime.NumGoroutine") = false := by kernel_rfl
theorem bd40 : Tryd.f40.body.isNone = false := by kernel_rfl
theorem nm41 : (Tryd.f41.name == "runtime.NumGoroutine") = false := by kernel_rfl
theorem bd41 : Tryd.f41.body.isNone = false := by kernel_rfl
theorem nm42 : (Tryd.f42.name == "runtime.NumGoroutine") = false := by kernel_rfl
theorem bd42 : Tryd.f42.body.isNone = false := by kernel_rfl
theorem nm43 : (Tryd.f43.name == "runtime.NumGoroutine") = false := by kernel_rfl
theorem bd43 : Tryd.f43.body.isNone = false := by kernel_rfl
theorem nm44 : (Tryd.f44.name == "runtime.NumGoroutine") = false := by kernel_rfl
theorem bd44 : Tryd.f44.body.isNone = false := by kernel_rfl
theorem nm45 : (Tryd.f45.name == "runtime.NumGoroutine") = false := by kernel_rfl
theorem bd45 : Tryd.f45.body.isNone = false := by kernel_rfl
theorem nm46 : (Tryd.f46.name == "runtime.NumGoroutine") = false := by kernel_rfl
theorem bd46 : Tryd.f46.body.isNone = false := by kernel_rfl
theorem nm47 : (Tryd.f47.name == "runtime.NumGoroutine") = false := by kernel_rfl
theorem bd47 : Tryd.f47.body.isNone = false := by kernel_rfl
theorem nm48 : (Tryd.f48.name == "runtime.NumGoroutine") = false := by kernel_rfl
theorem bd48 : Tryd.f48.body.isNone = false := by kernel_rfl
theorem nm49 : (Tryd.f49.name == "runtime.NumGoroutine") = false := by kernel_rfl
theorem bd49 : Tryd.f49.body.isNone = false := by kernel_rfl
theorem nm50 : (Tryd.f50.name == "runtime.NumGoroutine") = false := by kernel_rfl
theorem bd50 : Tryd.f50.body.isNone = false := by kernel_rfl
theorem nm51 : (Tryd.f51.name == "runtime.NumGoroutine") = false := by kernel_rfl
theorem bd51 : Tryd.f51.body.isNone = false := by kernel_rfl
theorem nm52 : (Tryd.f52.name == "runtime.NumGoroutine") = false := by kernel_rfl
theorem bd52 : Tryd.f52.body.isNone = false := by kernel_rfl
theorem nm53 : (Tryd.f53.name == "runtime.NumGoroutine") = false := by kernel_rfl
theorem bd53 : Tryd.f53.body.isNone = false := by kernel_rfl
theorem nm54 : (Tryd.f54.name == "runtime.NumGoroutine") = false := by kernel_rfl
theorem bd54 : Tryd.f54.body.isNone = false := by kernel_rfl
theorem nm55 : (Tryd.f55.name == "runtime.NumGoroutine") = false := by kernel_rfl
theorem bd55 : Tryd.f55.body.isNone = false := by kernel_rfl
theorem nm56 : (Tryd.f56.name == "runtime.NumGoroutine") = false := by kernel_rfl
theorem bd56 : Tryd.f56.body.isNone = false := by kernel_rfl
theorem nm57 : (Tryd.f57.name == "runtime.NumGoroutine") = false := by kernel_rfl
theorem bd57 : Tryd.f57.body.isNone = false := by kernel_rfl
theorem nm58 : (Tryd.f58.name == "runtime.NumGoroutine") = false := by kernel_rfl
theorem bd58 : Tryd.f58.body.isNone = false := by kernel_rfl
theorem nm59 : (Tryd.f59.name == "runtime.NumGoroutine") = false := by kernel_rfl
theorem bd59 : Tryd.f59.body.isNone = false := by kernel_rfl
theorem nm60 : (Tryd.f60.name == "runtime.NumGoroutine") = false := by kernel_rfl
theorem bd60 : Tryd.f60.body.isNone = false := by kernel_rfl
theorem nm61 : (Tryd.f61.name == "runtime.NumGoroutine") = false := by kernel_rfl
theorem bd61 : Tryd.f61.body.isNone = false := by kernel_rfl
theorem nm62 : (Tryd.f62.name == "runtime.NumGoroutine") = false := by kernel_rfl
theorem bd62 : Tryd.f62.body.isNone = false := by kernel_rfl
theorem nm63 : (Tryd.f63.name == "runtime.NumGoroutine") = false := by kernel_rfl
theorem bd63 : Tryd.f63.body.isNone = false := by kernel_rfl
theorem nm64 : (Tryd.f64.name == "runtime.NumGoroutine") = false := by kernel_rfl
theorem bd64 : Tryd.f64.body.isNone = false := by kernel_rfl
theorem nm65 : (Tryd.f65.name == "runtime.NumGoroutine") = false := by kernel_rfl
theorem bd65 : Tryd.f65.body.isNone = false := by kernel_rfl
theorem nm66 : (Tryd.f66.name == "runtime.NumGoroutine") = false := by kernel_rfl
theorem bd66 : Tryd.f66.body.isNone = false := by kernel_rfl
theorem nm67 : (Tryd.f67.name == "runtime.NumGoroutine") = false := by kernel_rfl
theorem bd67 : Tryd.f67.body.isNone = false := by kernel_rfl
theorem nm68 : (Tryd.f68.name == "runtime.NumGoroutine") = false := by kernel_rfl
theorem bd68 : Tryd.f68.body.isNone = false := by kernel_rfl
theorem nm69 : (Tryd.f69.name == "runtime.NumGoroutine") = false := by kernel_rfl
theorem bd69 : Tryd.f69.body.isNone = false := by kernel_rfl
theorem nm70 : (Tryd.f70.name == "runtime.NumGoroutine") = false := by kernel_rfl
theorem bd70 : Tryd.f70.body.isNone = false := by kernel_rfl
theorem nm71 : (Tryd.f71.name == "runtime.NumGoroutine") = false := by kernel_rfl
theorem bd71 : Tryd.f71.body.isNone = false := by kernel_rfl
theorem nm72 : (Tryd.f72.name == "runtime.NumGoroutine") = false := by kernel_rfl
theorem bd72 : Tryd.f72.body.isNone = false := by kernel_rfl
theorem nm73 : (Tryd.f73.name == "runtime.NumGoroutine") = false := by kernel_rfl
theorem bd73 : Tryd.f73.body.isNone = false := by kernel_rfl
theorem nm74 : (Tryd.f74.name == "runtime.NumGoroutine") = false := by kernel_rfl
theorem bd74 : Tryd.f74.body.isNone = false := by kernel_rfl
theorem nm75 : (Tryd.f75.name == "runtime.NumGoroutine") = false := by kernel_rfl
theorem bd75 : Tryd.f75.body.isNone = false := by kernel_rfl
theorem nm76 : (Tryd.f76.name == "runtime.NumGoroutine") = false := by kernel_rfl
theorem bd76 : Tryd.f76.body.isNone = false := by kernel_rfl
theorem nm77 : (Tryd.f77.name == "runtime.NumGoroutine") = false := by kernel_rfl
theorem bd77 : Tryd.f77.body.isNone = false := by kernel_rfl
theorem nm78 : (Tryd.f78.name == "runtime.NumGoroutine") = false := by kernel_rfl
theorem bd78 : Tryd.f78.body.isNone = false := by kernel_rfl
theorem nm79 : (Tryd.f79.name == "runtime.NumGoroutine") = false := by kernel_rfl
theorem bd79 : Tryd.f79.body.isNone = false := by kernel_rfl
theorem nm80 : (Tryd.f80.name == "runtime.NumGoroutine") = false := by kernel_rfl
theorem bd80 : Tryd.f80.body.isNone = false := by kernel_rfl
theorem nm81 : (Tryd.f81.name == "runtime.NumGoroutine") = false := by kernel_rfl
theorem bd81 : Tryd.f81.body.isNone = false := by kernel_rfl
theorem nm82 : (Tryd.f82.name == "runtime.NumGoroutine") = false := by kernel_rfl
theorem bd82 : Tryd.f82.body.isNone = false := by kernel_rfl
theorem nm83 : (Tryd.f83.name == "runtime.NumGoroutine") = false := by kernel_rfl
theorem bd83 : Tryd.f83.body.isNone = false := by kernel_rfl
theorem nm84 : (Tryd.f84.name == "runtime.NumGoroutine") = false := by kernel_rfl
theorem bd84 : Tryd.f84.body.isNone = false := by kernel_rfl
theorem nm85 : (Tryd.f85.name == "runtime.NumGoroutine") = false := by kernel_rfl
theorem bd85 : Tryd.f85.body.isNone = false := by kernel_rfl
theorem nm86 : (Tryd.f86.name == "runtime.NumGoroutine") = false := by kernel_rfl
theorem bd86 : Tryd.f86.body.isNone = false := by kernel_rfl
theorem nm87 : (Tryd.f87.name == "runtime.NumGoroutine") = false := by kernel_rfl
theorem bd87 : Tryd.f87.body.isNone = false := by kernel_rfl
theorem nm88 : (Tryd.f88.name == "runtime.NumGoroutine") = false := by kernel_rfl
theorem bd88 : Tryd.f88.body.isNone = false := by kernel_rfl
theorem nm89 : (Tryd.f89.name == "runtime.NumGoroutine") = false := by kernel_rfl
theorem bd89 : Tryd.f89.body.isNone = false := by kernel_rfl
theorem nm90 : (Tryd.f90.name == "runtime.NumGoroutine") = false := by kernel_rfl
theorem bd90 : Tryd.f90.body.isNone = false := by kernel_rfl
theorem nm91 : (Tryd.f91.name == "runtime.NumGoroutine") = false := by kernel_rfl
theorem bd91 : Tryd.f91.body.isNone = false := by kernel_rfl
theorem nm92 : (Tryd.f92.name == "runtime.NumGoroutine") = false := by kernel_rfl
theorem bd92 : Tryd.f92.body.isNone = false := by kernel_rfl
theorem nm93 : (Tryd.f93.name == "runtime.NumGoroutine") = false := by kernel_rfl
theorem bd93 : Tryd.f93.body.isNone = false := by kernel_rfl
theorem nm94 : (Tryd.f94.name == "runtime.NumGoroutine") = false := by kernel_rfl
theorem bd94 : Tryd.f94.body.isNone = false := by kernel_rfl
theorem nm95 : (Tryd.f95.name == "runtime.NumGoroutine") = false := by kernel_rfl
theorem bd95 : Tryd.f95.body.isNone = false := by kernel_rfl
theorem nm96 : (Tryd.f96.name == "runtime.NumGoroutine") = false := by kernel_rfl
theorem bd96 : Tryd.f96.body.isNone = false := by kernel_rfl
theorem nm97 : (Tryd.f97.name == "runtime.NumGoroutine") = false := by kernel_rfl
theorem bd97 : Tryd.f97.body.isNone = false := by kernel_rfl
theorem nm98 : (Tryd.f98.name == "runtime.NumGoroutine") = false := by kernel_rfl
theorem bd98 : Tryd.f98.body.isNone = false := by kernel_rfl
theorem nm99 : (Tryd.f99.name == "runtime.NumGoroutine") = false := by kernel_rfl
theorem bd99 : Tryd.f99.body.isNone = false := by kernel_rfl
theorem nm100 : (Tryd.f100.name == "runtime.NumGoroutine") = false := by kernel_rfl
theorem bd100 : Tryd.f100.body.isNone = false := by kernel_rfl
theorem nm101 : (Tryd.f101.name == "runtime.NumGoroutine") = false := by kernel_rfl
theorem bd101 : Tryd.f101.body.isNone = false := by kernel_rfl
theorem nm102 : (Tryd.f102.name == "runtime.NumGoroutine") = false := by kernel_rfl
theorem bd102 : Tryd.f102.body.isNone = false := by kernel_rfl
theorem nm122 : (Tryd.f122.name == "runtime.NumGoroutine") = false := by kernel_rfl
theorem bd122 : Tryd.f122.body.isNone = false := by kernel_rfl
theorem mixed : Tryd.prog.follows .mixedOrders = true := by kernel_rfl
end Go.Proofs