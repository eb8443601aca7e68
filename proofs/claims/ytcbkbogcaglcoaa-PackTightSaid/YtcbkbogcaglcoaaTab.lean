/- Closed facts on the types and functions of this seat, printed by a program. -/
import Derived.Test.YtcbkbogcaglcoaaOps
import Derived.Test.YtcbkbogcaglcoaaChecked
namespace Go.Proofs
open Go Go.Eng
set_option maxRecDepth 100000
theorem siz1 : Siz Try.prog 1 1 := by unfold Siz; kernel_rfl
theorem byt1 : Byt Try.prog 1 8 := by unfold Byt; kernel_rfl
theorem zer1 : Zer Try.prog 1 .nilFunc := by unfold Zer; kernel_rfl
theorem flat1 : flatB Try.prog 1 = true := by kernel_rfl
theorem siz2 : Siz Try.prog 2 1 := by unfold Siz; kernel_rfl
theorem byt2 : Byt Try.prog 2 8 := by unfold Byt; kernel_rfl
theorem zer2 : Zer Try.prog 2 (.int .i64 0) := by unfold Zer; kernel_rfl
theorem flat2 : flatB Try.prog 2 = true := by kernel_rfl
theorem siz3 : Siz Try.prog 3 1 := by unfold Siz; kernel_rfl
theorem byt3 : Byt Try.prog 3 8 := by unfold Byt; kernel_rfl
theorem zer3 : Zer Try.prog 3 (.int .i64 0) := by unfold Zer; kernel_rfl
theorem flat3 : flatB Try.prog 3 = true := by kernel_rfl
theorem siz4 : Siz Try.prog 4 1 := by unfold Siz; kernel_rfl
theorem byt4 : Byt Try.prog 4 1 := by unfold Byt; kernel_rfl
theorem zer4 : Zer Try.prog 4 (.bool false) := by unfold Zer; kernel_rfl
theorem flat4 : flatB Try.prog 4 = true := by kernel_rfl
theorem siz5 : Siz Try.prog 5 1 := by unfold Siz; kernel_rfl
theorem byt5 : Byt Try.prog 5 1 := by unfold Byt; kernel_rfl
theorem zer5 : Zer Try.prog 5 (.int .u8 0) := by unfold Zer; kernel_rfl
theorem flat5 : flatB Try.prog 5 = true := by kernel_rfl
theorem siz6 : Siz Try.prog 6 1 := by unfold Siz; kernel_rfl
theorem byt6 : Byt Try.prog 6 1 := by unfold Byt; kernel_rfl
theorem zer6 : Zer Try.prog 6 (.int .u8 0) := by unfold Zer; kernel_rfl
theorem flat6 : flatB Try.prog 6 = true := by kernel_rfl
theorem siz7 : Siz Try.prog 7 4 := by unfold Siz; kernel_rfl
theorem byt7 : Byt Try.prog 7 24 := by unfold Byt; kernel_rfl
theorem zer7 : Zer Try.prog 7 (.agg #[(.int .i64 0), (.int .i64 0), (.bool false), (.int .u8 0)]) := by unfold Zer; kernel_rfl
theorem agg7 : aggB Try.prog 7 = true := by kernel_rfl
theorem siz8 : Siz Try.prog 8 4 := by unfold Siz; kernel_rfl
theorem byt8 : Byt Try.prog 8 24 := by unfold Byt; kernel_rfl
theorem zer8 : Zer Try.prog 8 (.agg #[(.int .i64 0), (.int .i64 0), (.bool false), (.int .u8 0)]) := by unfold Zer; kernel_rfl
theorem agg8 : aggB Try.prog 8 = true := by kernel_rfl
theorem siz9 : Siz Try.prog 9 1 := by unfold Siz; kernel_rfl
theorem byt9 : Byt Try.prog 9 16 := by unfold Byt; kernel_rfl
theorem flat9 : flatB Try.prog 9 = true := by kernel_rfl
theorem siz10 : Siz Try.prog 10 1 := by unfold Siz; kernel_rfl
theorem byt10 : Byt Try.prog 10 16 := by unfold Byt; kernel_rfl
theorem flat10 : flatB Try.prog 10 = true := by kernel_rfl
theorem siz11 : Siz Try.prog 11 1 := by unfold Siz; kernel_rfl
theorem byt11 : Byt Try.prog 11 16 := by unfold Byt; kernel_rfl
theorem flat11 : flatB Try.prog 11 = true := by kernel_rfl
theorem siz12 : Siz Try.prog 12 1 := by unfold Siz; kernel_rfl
theorem byt12 : Byt Try.prog 12 8 := by unfold Byt; kernel_rfl
theorem zer12 : Zer Try.prog 12 (.int .u64 0) := by unfold Zer; kernel_rfl
theorem flat12 : flatB Try.prog 12 = true := by kernel_rfl
theorem siz13 : Siz Try.prog 13 2 := by unfold Siz; kernel_rfl
theorem byt13 : Byt Try.prog 13 24 := by unfold Byt; kernel_rfl
theorem agg13 : aggB Try.prog 13 = true := by kernel_rfl
theorem siz14 : Siz Try.prog 14 2 := by unfold Siz; kernel_rfl
theorem byt14 : Byt Try.prog 14 24 := by unfold Byt; kernel_rfl
theorem agg14 : aggB Try.prog 14 = true := by kernel_rfl
theorem siz15 : Siz Try.prog 15 1 := by unfold Siz; kernel_rfl
theorem byt15 : Byt Try.prog 15 8 := by unfold Byt; kernel_rfl
theorem zer15 : Zer Try.prog 15 (.pointer none) := by unfold Zer; kernel_rfl
theorem flat15 : flatB Try.prog 15 = true := by kernel_rfl
theorem siz16 : Siz Try.prog 16 1 := by unfold Siz; kernel_rfl
theorem byt16 : Byt Try.prog 16 8 := by unfold Byt; kernel_rfl
theorem zer16 : Zer Try.prog 16 (.pointer none) := by unfold Zer; kernel_rfl
theorem flat16 : flatB Try.prog 16 = true := by kernel_rfl
theorem siz17 : Siz Try.prog 17 1 := by unfold Siz; kernel_rfl
theorem byt17 : Byt Try.prog 17 8 := by unfold Byt; kernel_rfl
theorem zer17 : Zer Try.prog 17 (.pointer none) := by unfold Zer; kernel_rfl
theorem flat17 : flatB Try.prog 17 = true := by kernel_rfl
theorem siz18 : Siz Try.prog 18 1 := by unfold Siz; kernel_rfl
theorem byt18 : Byt Try.prog 18 8 := by unfold Byt; kernel_rfl
theorem zer18 : Zer Try.prog 18 (.agg #[(.pointer none)]) := by unfold Zer; kernel_rfl
theorem agg18 : aggB Try.prog 18 = true := by kernel_rfl
theorem siz19 : Siz Try.prog 19 1 := by unfold Siz; kernel_rfl
theorem byt19 : Byt Try.prog 19 8 := by unfold Byt; kernel_rfl
theorem zer19 : Zer Try.prog 19 (.agg #[(.pointer none)]) := by unfold Zer; kernel_rfl
theorem agg19 : aggB Try.prog 19 = true := by kernel_rfl
theorem siz20 : Siz Try.prog 20 1 := by unfold Siz; kernel_rfl
theorem byt20 : Byt Try.prog 20 16 := by unfold Byt; kernel_rfl
theorem zer20 : Zer Try.prog 20 .nilIface := by unfold Zer; kernel_rfl
theorem flat20 : flatB Try.prog 20 = true := by kernel_rfl
theorem siz21 : Siz Try.prog 21 1 := by unfold Siz; kernel_rfl
theorem byt21 : Byt Try.prog 21 4 := by unfold Byt; kernel_rfl
theorem zer21 : Zer Try.prog 21 (.int .i32 0) := by unfold Zer; kernel_rfl
theorem flat21 : flatB Try.prog 21 = true := by kernel_rfl
theorem siz22 : Siz Try.prog 22 1 := by unfold Siz; kernel_rfl
theorem byt22 : Byt Try.prog 22 24 := by unfold Byt; kernel_rfl
theorem zer22 : Zer Try.prog 22 (.slice none 0 0) := by unfold Zer; kernel_rfl
theorem flat22 : flatB Try.prog 22 = true := by kernel_rfl
theorem siz23 : Siz Try.prog 23 6 := by unfold Siz; kernel_rfl
theorem byt23 : Byt Try.prog 23 112 := by unfold Byt; kernel_rfl
theorem zer23 : Zer Try.prog 23 (.agg #[(.int .i64 0), (.int .i64 0), (.slice none 0 0), (.slice none 0 0), (.slice none 0 0), (.slice none 0 0)]) := by unfold Zer; kernel_rfl
theorem agg23 : aggB Try.prog 23 = true := by kernel_rfl
theorem siz24 : Siz Try.prog 24 6 := by unfold Siz; kernel_rfl
theorem byt24 : Byt Try.prog 24 112 := by unfold Byt; kernel_rfl
theorem zer24 : Zer Try.prog 24 (.agg #[(.int .i64 0), (.int .i64 0), (.slice none 0 0), (.slice none 0 0), (.slice none 0 0), (.slice none 0 0)]) := by unfold Zer; kernel_rfl
theorem agg24 : aggB Try.prog 24 = true := by kernel_rfl
theorem siz25 : Siz Try.prog 25 1 := by unfold Siz; kernel_rfl
theorem byt25 : Byt Try.prog 25 8 := by unfold Byt; kernel_rfl
theorem zer25 : Zer Try.prog 25 (.int .i64 0) := by unfold Zer; kernel_rfl
theorem flat25 : flatB Try.prog 25 = true := by kernel_rfl
theorem siz27 : Siz Try.prog 27 1 := by unfold Siz; kernel_rfl
theorem byt27 : Byt Try.prog 27 8 := by unfold Byt; kernel_rfl
theorem zer27 : Zer Try.prog 27 .nilFunc := by unfold Zer; kernel_rfl
theorem flat27 : flatB Try.prog 27 = true := by kernel_rfl
theorem siz28 : Siz Try.prog 28 1 := by unfold Siz; kernel_rfl
theorem byt28 : Byt Try.prog 28 24 := by unfold Byt; kernel_rfl
theorem zer28 : Zer Try.prog 28 (.slice none 0 0) := by unfold Zer; kernel_rfl
theorem flat28 : flatB Try.prog 28 = true := by kernel_rfl
theorem siz29 : Siz Try.prog 29 3 := by unfold Siz; kernel_rfl
theorem byt29 : Byt Try.prog 29 56 := by unfold Byt; kernel_rfl
theorem zer29 : Zer Try.prog 29 (.agg #[(.int .i64 0), (.slice none 0 0), (.slice none 0 0)]) := by unfold Zer; kernel_rfl
theorem agg29 : aggB Try.prog 29 = true := by kernel_rfl
theorem siz30 : Siz Try.prog 30 3 := by unfold Siz; kernel_rfl
theorem byt30 : Byt Try.prog 30 56 := by unfold Byt; kernel_rfl
theorem zer30 : Zer Try.prog 30 (.agg #[(.int .i64 0), (.slice none 0 0), (.slice none 0 0)]) := by unfold Zer; kernel_rfl
theorem agg30 : aggB Try.prog 30 = true := by kernel_rfl
theorem siz31 : Siz Try.prog 31 1 := by unfold Siz; kernel_rfl
theorem byt31 : Byt Try.prog 31 8 := by unfold Byt; kernel_rfl
theorem zer31 : Zer Try.prog 31 .nilFunc := by unfold Zer; kernel_rfl
theorem flat31 : flatB Try.prog 31 = true := by kernel_rfl
theorem siz32 : Siz Try.prog 32 1 := by unfold Siz; kernel_rfl
theorem byt32 : Byt Try.prog 32 8 := by unfold Byt; kernel_rfl
theorem zer32 : Zer Try.prog 32 .nilFunc := by unfold Zer; kernel_rfl
theorem flat32 : flatB Try.prog 32 = true := by kernel_rfl
theorem siz33 : Siz Try.prog 33 1 := by unfold Siz; kernel_rfl
theorem byt33 : Byt Try.prog 33 8 := by unfold Byt; kernel_rfl
theorem zer33 : Zer Try.prog 33 .nilFunc := by unfold Zer; kernel_rfl
theorem flat33 : flatB Try.prog 33 = true := by kernel_rfl
theorem siz35 : Siz Try.prog 35 1 := by unfold Siz; kernel_rfl
theorem byt35 : Byt Try.prog 35 8 := by unfold Byt; kernel_rfl
theorem zer35 : Zer Try.prog 35 .nilFunc := by unfold Zer; kernel_rfl
theorem flat35 : flatB Try.prog 35 = true := by kernel_rfl
theorem siz36 : Siz Try.prog 36 1 := by unfold Siz; kernel_rfl
theorem byt36 : Byt Try.prog 36 8 := by unfold Byt; kernel_rfl
theorem zer36 : Zer Try.prog 36 .nilFunc := by unfold Zer; kernel_rfl
theorem flat36 : flatB Try.prog 36 = true := by kernel_rfl
theorem siz37 : Siz Try.prog 37 1 := by unfold Siz; kernel_rfl
theorem byt37 : Byt Try.prog 37 8 := by unfold Byt; kernel_rfl
theorem zer37 : Zer Try.prog 37 .nilFunc := by unfold Zer; kernel_rfl
theorem flat37 : flatB Try.prog 37 = true := by kernel_rfl
theorem siz38 : Siz Try.prog 38 1 := by unfold Siz; kernel_rfl
theorem byt38 : Byt Try.prog 38 8 := by unfold Byt; kernel_rfl
theorem zer38 : Zer Try.prog 38 .nilFunc := by unfold Zer; kernel_rfl
theorem flat38 : flatB Try.prog 38 = true := by kernel_rfl
theorem siz39 : Siz Try.prog 39 1 := by unfold Siz; kernel_rfl
theorem byt39 : Byt Try.prog 39 8 := by unfold Byt; kernel_rfl
theorem zer39 : Zer Try.prog 39 .nilFunc := by unfold Zer; kernel_rfl
theorem flat39 : flatB Try.prog 39 = true := by kernel_rfl
theorem siz40 : Siz Try.prog 40 1 := by unfold Siz; kernel_rfl
theorem byt40 : Byt Try.prog 40 8 := by unfold Byt; kernel_rfl
theorem zer40 : Zer Try.prog 40 .nilFunc := by unfold Zer; kernel_rfl
theorem flat40 : flatB Try.prog 40 = true := by kernel_rfl
theorem siz41 : Siz Try.prog 41 1 := by unfold Siz; kernel_rfl
theorem byt41 : Byt Try.prog 41 24 := by unfold Byt; kernel_rfl
theorem zer41 : Zer Try.prog 41 (.slice none 0 0) := by unfold Zer; kernel_rfl
theorem flat41 : flatB Try.prog 41 = true := by kernel_rfl
theorem siz43 : Siz Try.prog 43 1 := by unfold Siz; kernel_rfl
theorem byt43 : Byt Try.prog 43 8 := by unfold Byt; kernel_rfl
theorem zer43 : Zer Try.prog 43 .nilFunc := by unfold Zer; kernel_rfl
theorem flat43 : flatB Try.prog 43 = true := by kernel_rfl
theorem siz45 : Siz Try.prog 45 1 := by unfold Siz; kernel_rfl
theorem byt45 : Byt Try.prog 45 8 := by unfold Byt; kernel_rfl
theorem zer45 : Zer Try.prog 45 .nilFunc := by unfold Zer; kernel_rfl
theorem flat45 : flatB Try.prog 45 = true := by kernel_rfl
theorem siz46 : Siz Try.prog 46 1 := by unfold Siz; kernel_rfl
theorem byt46 : Byt Try.prog 46 8 := by unfold Byt; kernel_rfl
theorem zer46 : Zer Try.prog 46 .nilFunc := by unfold Zer; kernel_rfl
theorem flat46 : flatB Try.prog 46 = true := by kernel_rfl
theorem siz47 : Siz Try.prog 47 1 := by unfold Siz; kernel_rfl
theorem byt47 : Byt Try.prog 47 8 := by unfold Byt; kernel_rfl
theorem zer47 : Zer Try.prog 47 .nilFunc := by unfold Zer; kernel_rfl
theorem flat47 : flatB Try.prog 47 = true := by kernel_rfl
theorem siz48 : Siz Try.prog 48 1 := by unfold Siz; kernel_rfl
theorem byt48 : Byt Try.prog 48 8 := by unfold Byt; kernel_rfl
theorem zer48 : Zer Try.prog 48 .nilFunc := by unfold Zer; kernel_rfl
theorem flat48 : flatB Try.prog 48 = true := by kernel_rfl
theorem siz49 : Siz Try.prog 49 1 := by unfold Siz; kernel_rfl
theorem byt49 : Byt Try.prog 49 8 := by unfold Byt; kernel_rfl
theorem zer49 : Zer Try.prog 49 .nilFunc := by unfold Zer; kernel_rfl
theorem flat49 : flatB Try.prog 49 = true := by kernel_rfl
theorem siz50 : Siz Try.prog 50 1 := by unfold Siz; kernel_rfl
theorem byt50 : Byt Try.prog 50 8 := by unfold Byt; kernel_rfl
theorem zer50 : Zer Try.prog 50 .nilFunc := by unfold Zer; kernel_rfl
theorem flat50 : flatB Try.prog 50 = true := by kernel_rfl
theorem siz51 : Siz Try.prog 51 1 := by unfold Siz; kernel_rfl
theorem byt51 : Byt Try.prog 51 8 := by unfold Byt; kernel_rfl
theorem zer51 : Zer Try.prog 51 .nilFunc := by unfold Zer; kernel_rfl
theorem flat51 : flatB Try.prog 51 = true := by kernel_rfl
theorem siz52 : Siz Try.prog 52 1 := by unfold Siz; kernel_rfl
theorem byt52 : Byt Try.prog 52 8 := by unfold Byt; kernel_rfl
theorem zer52 : Zer Try.prog 52 .nilFunc := by unfold Zer; kernel_rfl
theorem flat52 : flatB Try.prog 52 = true := by kernel_rfl
theorem siz53 : Siz Try.prog 53 1 := by unfold Siz; kernel_rfl
theorem byt53 : Byt Try.prog 53 8 := by unfold Byt; kernel_rfl
theorem zer53 : Zer Try.prog 53 .nilFunc := by unfold Zer; kernel_rfl
theorem flat53 : flatB Try.prog 53 = true := by kernel_rfl
theorem siz54 : Siz Try.prog 54 1 := by unfold Siz; kernel_rfl
theorem byt54 : Byt Try.prog 54 8 := by unfold Byt; kernel_rfl
theorem zer54 : Zer Try.prog 54 .nilFunc := by unfold Zer; kernel_rfl
theorem flat54 : flatB Try.prog 54 = true := by kernel_rfl
theorem siz55 : Siz Try.prog 55 1 := by unfold Siz; kernel_rfl
theorem byt55 : Byt Try.prog 55 8 := by unfold Byt; kernel_rfl
theorem zer55 : Zer Try.prog 55 .nilFunc := by unfold Zer; kernel_rfl
theorem flat55 : flatB Try.prog 55 = true := by kernel_rfl
theorem siz56 : Siz Try.prog 56 1 := by unfold Siz; kernel_rfl
theorem byt56 : Byt Try.prog 56 8 := by unfold Byt; kernel_rfl
theorem zer56 : Zer Try.prog 56 .nilFunc := by unfold Zer; kernel_rfl
theorem flat56 : flatB Try.prog 56 = true := by kernel_rfl
theorem siz57 : Siz Try.prog 57 1 := by unfold Siz; kernel_rfl
theorem byt57 : Byt Try.prog 57 8 := by unfold Byt; kernel_rfl
theorem zer57 : Zer Try.prog 57 .nilFunc := by unfold Zer; kernel_rfl
theorem flat57 : flatB Try.prog 57 = true := by kernel_rfl
theorem siz58 : Siz Try.prog 58 1 := by unfold Siz; kernel_rfl
theorem byt58 : Byt Try.prog 58 8 := by unfold Byt; kernel_rfl
theorem zer58 : Zer Try.prog 58 .nilFunc := by unfold Zer; kernel_rfl
theorem flat58 : flatB Try.prog 58 = true := by kernel_rfl
theorem siz59 : Siz Try.prog 59 1 := by unfold Siz; kernel_rfl
theorem byt59 : Byt Try.prog 59 8 := by unfold Byt; kernel_rfl
theorem zer59 : Zer Try.prog 59 (.pointer none) := by unfold Zer; kernel_rfl
theorem flat59 : flatB Try.prog 59 = true := by kernel_rfl
theorem siz60 : Siz Try.prog 60 1 := by unfold Siz; kernel_rfl
theorem byt60 : Byt Try.prog 60 24 := by unfold Byt; kernel_rfl
theorem zer60 : Zer Try.prog 60 (.agg #[(.slice none 0 0)]) := by unfold Zer; kernel_rfl
theorem agg60 : aggB Try.prog 60 = true := by kernel_rfl
theorem siz61 : Siz Try.prog 61 1 := by unfold Siz; kernel_rfl
theorem byt61 : Byt Try.prog 61 24 := by unfold Byt; kernel_rfl
theorem zer61 : Zer Try.prog 61 (.agg #[(.slice none 0 0)]) := by unfold Zer; kernel_rfl
theorem agg61 : aggB Try.prog 61 = true := by kernel_rfl
theorem siz62 : Siz Try.prog 62 1 := by unfold Siz; kernel_rfl
theorem byt62 : Byt Try.prog 62 8 := by unfold Byt; kernel_rfl
theorem zer62 : Zer Try.prog 62 .nilFunc := by unfold Zer; kernel_rfl
theorem flat62 : flatB Try.prog 62 = true := by kernel_rfl
theorem siz63 : Siz Try.prog 63 1 := by unfold Siz; kernel_rfl
theorem byt63 : Byt Try.prog 63 24 := by unfold Byt; kernel_rfl
theorem zer63 : Zer Try.prog 63 (.slice none 0 0) := by unfold Zer; kernel_rfl
theorem flat63 : flatB Try.prog 63 = true := by kernel_rfl
theorem siz64 : Siz Try.prog 64 2 := by unfold Siz; kernel_rfl
theorem byt64 : Byt Try.prog 64 16 := by unfold Byt; kernel_rfl
theorem zer64 : Zer Try.prog 64 (.agg #[(.int .i64 0), (.int .i64 0)]) := by unfold Zer; kernel_rfl
theorem agg64 : aggB Try.prog 64 = true := by kernel_rfl
theorem siz65 : Siz Try.prog 65 1 := by unfold Siz; kernel_rfl
theorem byt65 : Byt Try.prog 65 8 := by unfold Byt; kernel_rfl
theorem zer65 : Zer Try.prog 65 .nilFunc := by unfold Zer; kernel_rfl
theorem flat65 : flatB Try.prog 65 = true := by kernel_rfl
theorem siz66 : Siz Try.prog 66 1 := by unfold Siz; kernel_rfl
theorem byt66 : Byt Try.prog 66 8 := by unfold Byt; kernel_rfl
theorem zer66 : Zer Try.prog 66 .nilFunc := by unfold Zer; kernel_rfl
theorem flat66 : flatB Try.prog 66 = true := by kernel_rfl
theorem siz67 : Siz Try.prog 67 1 := by unfold Siz; kernel_rfl
theorem byt67 : Byt Try.prog 67 8 := by unfold Byt; kernel_rfl
theorem zer67 : Zer Try.prog 67 (.int .u64 0) := by unfold Zer; kernel_rfl
theorem flat67 : flatB Try.prog 67 = true := by kernel_rfl
theorem siz68 : Siz Try.prog 68 1 := by unfold Siz; kernel_rfl
theorem byt68 : Byt Try.prog 68 8 := by unfold Byt; kernel_rfl
theorem zer68 : Zer Try.prog 68 .nilFunc := by unfold Zer; kernel_rfl
theorem flat68 : flatB Try.prog 68 = true := by kernel_rfl
theorem siz69 : Siz Try.prog 69 1 := by unfold Siz; kernel_rfl
theorem byt69 : Byt Try.prog 69 8 := by unfold Byt; kernel_rfl
theorem zer69 : Zer Try.prog 69 .nilFunc := by unfold Zer; kernel_rfl
theorem flat69 : flatB Try.prog 69 = true := by kernel_rfl
theorem siz71 : Siz Try.prog 71 1 := by unfold Siz; kernel_rfl
theorem byt71 : Byt Try.prog 71 8 := by unfold Byt; kernel_rfl
theorem zer71 : Zer Try.prog 71 .nilFunc := by unfold Zer; kernel_rfl
theorem flat71 : flatB Try.prog 71 = true := by kernel_rfl
theorem siz72 : Siz Try.prog 72 1 := by unfold Siz; kernel_rfl
theorem byt72 : Byt Try.prog 72 8 := by unfold Byt; kernel_rfl
theorem zer72 : Zer Try.prog 72 (.pointer none) := by unfold Zer; kernel_rfl
theorem flat72 : flatB Try.prog 72 = true := by kernel_rfl
theorem siz73 : Siz Try.prog 73 2 := by unfold Siz; kernel_rfl
theorem byt73 : Byt Try.prog 73 16 := by unfold Byt; kernel_rfl
theorem zer73 : Zer Try.prog 73 (.agg #[(.pointer none), (.int .i64 0)]) := by unfold Zer; kernel_rfl
theorem agg73 : aggB Try.prog 73 = true := by kernel_rfl
theorem siz74 : Siz Try.prog 74 1 := by unfold Siz; kernel_rfl
theorem byt74 : Byt Try.prog 74 24 := by unfold Byt; kernel_rfl
theorem zer74 : Zer Try.prog 74 (.slice none 0 0) := by unfold Zer; kernel_rfl
theorem flat74 : flatB Try.prog 74 = true := by kernel_rfl
theorem siz75 : Siz Try.prog 75 1 := by unfold Siz; kernel_rfl
theorem byt75 : Byt Try.prog 75 8 := by unfold Byt; kernel_rfl
theorem zer75 : Zer Try.prog 75 .nilFunc := by unfold Zer; kernel_rfl
theorem flat75 : flatB Try.prog 75 = true := by kernel_rfl
theorem siz76 : Siz Try.prog 76 1 := by unfold Siz; kernel_rfl
theorem byt76 : Byt Try.prog 76 24 := by unfold Byt; kernel_rfl
theorem zer76 : Zer Try.prog 76 (.slice none 0 0) := by unfold Zer; kernel_rfl
theorem flat76 : flatB Try.prog 76 = true := by kernel_rfl
theorem siz77 : Siz Try.prog 77 1 := by unfold Siz; kernel_rfl
theorem byt77 : Byt Try.prog 77 8 := by unfold Byt; kernel_rfl
theorem zer77 : Zer Try.prog 77 .nilFunc := by unfold Zer; kernel_rfl
theorem flat77 : flatB Try.prog 77 = true := by kernel_rfl
theorem siz78 : Siz Try.prog 78 1 := by unfold Siz; kernel_rfl
theorem byt78 : Byt Try.prog 78 8 := by unfold Byt; kernel_rfl
theorem zer78 : Zer Try.prog 78 .nilFunc := by unfold Zer; kernel_rfl
theorem flat78 : flatB Try.prog 78 = true := by kernel_rfl
theorem siz79 : Siz Try.prog 79 1 := by unfold Siz; kernel_rfl
theorem byt79 : Byt Try.prog 79 8 := by unfold Byt; kernel_rfl
theorem zer79 : Zer Try.prog 79 .nilFunc := by unfold Zer; kernel_rfl
theorem flat79 : flatB Try.prog 79 = true := by kernel_rfl
theorem siz80 : Siz Try.prog 80 1 := by unfold Siz; kernel_rfl
theorem byt80 : Byt Try.prog 80 8 := by unfold Byt; kernel_rfl
theorem zer80 : Zer Try.prog 80 .nilFunc := by unfold Zer; kernel_rfl
theorem flat80 : flatB Try.prog 80 = true := by kernel_rfl
theorem siz81 : Siz Try.prog 81 1 := by unfold Siz; kernel_rfl
theorem byt81 : Byt Try.prog 81 8 := by unfold Byt; kernel_rfl
theorem zer81 : Zer Try.prog 81 .nilFunc := by unfold Zer; kernel_rfl
theorem flat81 : flatB Try.prog 81 = true := by kernel_rfl
theorem siz82 : Siz Try.prog 82 1 := by unfold Siz; kernel_rfl
theorem byt82 : Byt Try.prog 82 8 := by unfold Byt; kernel_rfl
theorem zer82 : Zer Try.prog 82 .nilFunc := by unfold Zer; kernel_rfl
theorem flat82 : flatB Try.prog 82 = true := by kernel_rfl
theorem siz83 : Siz Try.prog 83 1 := by unfold Siz; kernel_rfl
theorem byt83 : Byt Try.prog 83 8 := by unfold Byt; kernel_rfl
theorem zer83 : Zer Try.prog 83 .nilFunc := by unfold Zer; kernel_rfl
theorem flat83 : flatB Try.prog 83 = true := by kernel_rfl
theorem siz84 : Siz Try.prog 84 1 := by unfold Siz; kernel_rfl
theorem byt84 : Byt Try.prog 84 8 := by unfold Byt; kernel_rfl
theorem zer84 : Zer Try.prog 84 .nilFunc := by unfold Zer; kernel_rfl
theorem flat84 : flatB Try.prog 84 = true := by kernel_rfl
theorem siz85 : Siz Try.prog 85 1 := by unfold Siz; kernel_rfl
theorem byt85 : Byt Try.prog 85 8 := by unfold Byt; kernel_rfl
theorem zer85 : Zer Try.prog 85 (.int .u64 0) := by unfold Zer; kernel_rfl
theorem flat85 : flatB Try.prog 85 = true := by kernel_rfl
theorem siz86 : Siz Try.prog 86 1 := by unfold Siz; kernel_rfl
theorem byt86 : Byt Try.prog 86 8 := by unfold Byt; kernel_rfl
theorem zer86 : Zer Try.prog 86 .nilFunc := by unfold Zer; kernel_rfl
theorem flat86 : flatB Try.prog 86 = true := by kernel_rfl
theorem siz87 : Siz Try.prog 87 4 := by unfold Siz; kernel_rfl
theorem byt87 : Byt Try.prog 87 40 := by unfold Byt; kernel_rfl
theorem agg87 : aggB Try.prog 87 = true := by kernel_rfl
theorem siz88 : Siz Try.prog 88 4 := by unfold Siz; kernel_rfl
theorem byt88 : Byt Try.prog 88 40 := by unfold Byt; kernel_rfl
theorem agg88 : aggB Try.prog 88 = true := by kernel_rfl
theorem siz92 : Siz Try.prog 92 1 := by unfold Siz; kernel_rfl
theorem byt92 : Byt Try.prog 92 8 := by unfold Byt; kernel_rfl
theorem zer92 : Zer Try.prog 92 .nilFunc := by unfold Zer; kernel_rfl
theorem flat92 : flatB Try.prog 92 = true := by kernel_rfl
theorem siz93 : Siz Try.prog 93 1 := by unfold Siz; kernel_rfl
theorem byt93 : Byt Try.prog 93 4 := by unfold Byt; kernel_rfl
theorem zer93 : Zer Try.prog 93 (.int .u32 0) := by unfold Zer; kernel_rfl
theorem flat93 : flatB Try.prog 93 = true := by kernel_rfl
theorem siz94 : Siz Try.prog 94 1 := by unfold Siz; kernel_rfl
theorem byt94 : Byt Try.prog 94 1 := by unfold Byt; kernel_rfl
theorem zer94 : Zer Try.prog 94 (.int .u8 0) := by unfold Zer; kernel_rfl
theorem flat94 : flatB Try.prog 94 = true := by kernel_rfl
theorem siz95 : Siz Try.prog 95 1 := by unfold Siz; kernel_rfl
theorem byt95 : Byt Try.prog 95 1 := by unfold Byt; kernel_rfl
theorem zer95 : Zer Try.prog 95 (.int .u8 0) := by unfold Zer; kernel_rfl
theorem flat95 : flatB Try.prog 95 = true := by kernel_rfl
theorem siz96 : Siz Try.prog 96 1 := by unfold Siz; kernel_rfl
theorem byt96 : Byt Try.prog 96 8 := by unfold Byt; kernel_rfl
theorem zer96 : Zer Try.prog 96 .nilFunc := by unfold Zer; kernel_rfl
theorem flat96 : flatB Try.prog 96 = true := by kernel_rfl
theorem siz97 : Siz Try.prog 97 1 := by unfold Siz; kernel_rfl
theorem byt97 : Byt Try.prog 97 8 := by unfold Byt; kernel_rfl
theorem zer97 : Zer Try.prog 97 (.pointer none) := by unfold Zer; kernel_rfl
theorem flat97 : flatB Try.prog 97 = true := by kernel_rfl
theorem siz98 : Siz Try.prog 98 1 := by unfold Siz; kernel_rfl
theorem byt98 : Byt Try.prog 98 4 := by unfold Byt; kernel_rfl
theorem zer98 : Zer Try.prog 98 (.int .i32 0) := by unfold Zer; kernel_rfl
theorem flat98 : flatB Try.prog 98 = true := by kernel_rfl
theorem siz99 : Siz Try.prog 99 1 := by unfold Siz; kernel_rfl
theorem byt99 : Byt Try.prog 99 4 := by unfold Byt; kernel_rfl
theorem zer99 : Zer Try.prog 99 (.int .i32 0) := by unfold Zer; kernel_rfl
theorem flat99 : flatB Try.prog 99 = true := by kernel_rfl
theorem siz100 : Siz Try.prog 100 11 := by unfold Siz; kernel_rfl
theorem byt100 : Byt Try.prog 100 48 := by unfold Byt; kernel_rfl
theorem zer100 : Zer Try.prog 100 (.agg #[(.int .u64 0), (.int .u64 0), (.int .u32 0), (.int .u8 0), (.int .u8 0), (.int .u8 0), (.int .u8 0), .nilFunc, (.pointer none), (.int .i32 0), (.int .i32 0)]) := by unfold Zer; kernel_rfl
theorem agg100 : aggB Try.prog 100 = true := by kernel_rfl
theorem siz101 : Siz Try.prog 101 11 := by unfold Siz; kernel_rfl
theorem byt101 : Byt Try.prog 101 48 := by unfold Byt; kernel_rfl
theorem zer101 : Zer Try.prog 101 (.agg #[(.int .u64 0), (.int .u64 0), (.int .u32 0), (.int .u8 0), (.int .u8 0), (.int .u8 0), (.int .u8 0), .nilFunc, (.pointer none), (.int .i32 0), (.int .i32 0)]) := by unfold Zer; kernel_rfl
theorem agg101 : aggB Try.prog 101 = true := by kernel_rfl
theorem nm2 : (Try.f2.name == "runtime.NumGoroutine") = false := by kernel_rfl
theorem bd2 : Try.f2.body.isNone = false := by kernel_rfl
theorem nm3 : (Try.f3.name == "runtime.NumGoroutine") = false := by kernel_rfl
theorem bd3 : Try.f3.body.isNone = false := by kernel_rfl
theorem nm4 : (Try.f4.name == "runtime.NumGoroutine") = false := by kernel_rfl
theorem bd4 : Try.f4.body.isNone = false := by kernel_rfl
theorem nm5 : (Try.f5.name == "runtime.NumGoroutine") = false := by kernel_rfl
theorem bd5 : Try.f5.body.isNone = false := by kernel_rfl
theorem nm6 : (Try.f6.name == "runtime.NumGoroutine") = false := by kernel_rfl
theorem bd6 : Try.f6.body.isNone = false := by kernel_rfl
theorem nm7 : (Try.f7.name == "runtime.NumGoroutine") = false := by kernel_rfl
theorem bd7 : Try.f7.body.isNone = false := by kernel_rfl
theorem nm8 : (Try.f8.name == "runtime.NumGoroutine") = false := by kernel_rfl
theorem bd8 : Try.f8.body.isNone = false := by kernel_rfl
theorem nm9 : (Try.f9.name == "runtime.NumGoroutine") = false := by kernel_rfl
theorem bd9 : Try.f9.body.isNone = false := by kernel_rfl
theorem nm10 : (Try.f10.name == "runtime.NumGoroutine") = false := by kernel_rfl
theorem bd10 : Try.f10.body.isNone = false := by kernel_rfl
theorem nm11 : (Try.f11.name == "runtime.NumGoroutine") = false := by kernel_rfl
theorem bd11 : Try.f11.body.isNone = false := by kernel_rfl
theorem nm12 : (Try.f12.name == "runtime.NumGoroutine") = false := by kernel_rfl
theorem bd12 : Try.f12.body.isNone = false := by kernel_rfl
theorem nm13 : (Try.f13.name == "runtime.NumGoroutine") = false := by kernel_rfl
theorem bd13 : Try.f13.body.isNone = false := by kernel_rfl
theorem nm14 : (Try.f14.name == "runtime.NumGoroutine") = false := by kernel_rfl
theorem bd14 : Try.f14.body.isNone = false := by kernel_rfl
theorem nm15 : (Try.f15.name == "runtime.NumGoroutine") = false := by kernel_rfl
theorem bd15 : Try.f15.body.isNone = false := by kernel_rfl
theorem nm16 : (Try.f16.name == "runtime.NumGoroutine") = false := by kernel_rfl
theorem bd16 : Try.f16.body.isNone = false := by kernel_rfl
theorem nm17 : (Try.f17.name == "runtime.NumGoroutine") = false := by kernel_rfl
theorem bd17 : Try.f17.body.isNone = false := by kernel_rfl
theorem nm18 : (Try.f18.name == "runtime.NumGoroutine") = false := by kernel_rfl
theorem bd18 : Try.f18.body.isNone = false := by kernel_rfl
theorem nm19 : (Try.f19.name == "runtime.NumGoroutine") = false := by kernel_rfl
theorem bd19 : Try.f19.body.isNone = false := by kernel_rfl
theorem nm20 : (Try.f20.name == "runtime.NumGoroutine") = false := by kernel_rfl
theorem bd20 : Try.f20.body.isNone = false := by kernel_rfl
theorem nm21 : (Try.f21.name == "runtime.NumGoroutine") = false := by kernel_rfl
theorem bd21 : Try.f21.body.isNone = false := by kernel_rfl
theorem nm22 : (Try.f22.name == "runtime.NumGoroutine") = false := by kernel_rfl
theorem bd22 : Try.f22.body.isNone = false := by kernel_rfl
theorem nm23 : (Try.f23.name == "runtime.NumGoroutine") = false := by kernel_rfl
theorem bd23 : Try.f23.body.isNone = false := by kernel_rfl
theorem nm24 : (Try.f24.name == "runtime.NumGoroutine") = false := by kernel_rfl
theorem bd24 : Try.f24.body.isNone = false := by kernel_rfl
theorem nm25 : (Try.f25.name == "runtime.NumGoroutine") = false := by kernel_rfl
theorem bd25 : Try.f25.body.isNone = false := by kernel_rfl
theorem nm26 : (Try.f26.name == "runtime.NumGoroutine") = false := by kernel_rfl
theorem bd26 : Try.f26.body.isNone = false := by kernel_rfl
theorem nm27 : (Try.f27.name == "runtime.NumGoroutine") = false := by kernel_rfl
theorem bd27 : Try.f27.body.isNone = false := by kernel_rfl
theorem nm28 : (Try.f28.name == "runtime.NumGoroutine") = false := by kernel_rfl
theorem bd28 : Try.f28.body.isNone = false := by kernel_rfl
theorem nm29 : (Try.f29.name == "runtime.NumGoroutine") = false := by kernel_rfl
theorem bd29 : Try.f29.body.isNone = false := by kernel_rfl
theorem nm30 : (Try.f30.name == "runtime.NumGoroutine") = false := by kernel_rfl
theorem bd30 : Try.f30.body.isNone = false := by kernel_rfl
theorem nm31 : (Try.f31.name == "runtime.NumGoroutine") = false := by kernel_rfl
theorem bd31 : Try.f31.body.isNone = false := by kernel_rfl
theorem nm32 : (Try.f32.name == "runtime.NumGoroutine") = false := by kernel_rfl
theorem bd32 : Try.f32.body.isNone = false := by kernel_rfl
theorem nm33 : (Try.f33.name == "runtime.NumGoroutine") = false := by kernel_rfl
theorem bd33 : Try.f33.body.isNone = false := by kernel_rfl
theorem nm34 : (Try.f34.name == "runtime.NumGoroutine") = false := by kernel_rfl
theorem bd34 : Try.f34.body.isNone = false := by kernel_rfl
theorem nm35 : (Try.f35.name == "runtime.NumGoroutine") = false := by kernel_rfl
theorem bd35 : Try.f35.body.isNone = false := by kernel_rfl
theorem nm36 : (Try.f36.name == "runtime.NumGoroutine") = false := by kernel_rfl
theorem bd36 : Try.f36.body.isNone = false := by kernel_rfl
theorem nm37 : (Try.f37.name == "runtime.NumGoroutine") = false := by kernel_rfl
theorem bd37 : Try.f37.body.isNone = false := by kernel_rfl
theorem nm38 : (Try.f38.name == "runtime.NumGoroutine") = false := by kernel_rfl
theorem bd38 : Try.f38.body.isNone = false := by kernel_rfl
theorem nm39 : (Try.f39.name == "runtime.NumGoroutine") = false := by kernel_rfl
theorem bd39 : Try.f39.body.isNone = false := by kernel_rfl
theorem nm40 : (Try.f40.name == "runtime.NumGoroutine") = false := by kernel_rfl
theorem bd40 : Try.f40.body.isNone = false := by kernel_rfl
theorem nm41 : (Try.f41.name == "runtime.NumGoroutine") = false := by kernel_rfl
theorem bd41 : Try.f41.body.isNone = false := by kernel_rfl
theorem nm42 : (Try.f42.name == "runtime.NumGoroutine") = false := by kernel_rfl
theorem bd42 : Try.f42.body.isNone = false := by kernel_rfl
theorem nm43 : (Try.f43.name == "runtime.NumGoroutine") = false := by kernel_rfl
theorem bd43 : Try.f43.body.isNone = false := by kernel_rfl
theorem nm44 : (Try.f44.name == "runtime.NumGoroutine") = false := by kernel_rfl
theorem bd44 : Try.f44.body.isNone = false := by kernel_rfl
theorem nm45 : (Try.f45.name == "runtime.NumGoroutine") = false := by kernel_rfl
theorem bd45 : Try.f45.body.isNone = false := by kernel_rfl
theorem nm46 : (Try.f46.name == "runtime.NumGoroutine") = false := by kernel_rfl
theorem bd46 : Try.f46.body.isNone = false := by kernel_rfl
theorem nm47 : (Try.f47.name == "runtime.NumGoroutine") = false := by kernel_rfl
theorem bd47 : Try.f47.body.isNone = false := by kernel_rfl
theorem nm48 : (Try.f48.name == "runtime.NumGoroutine") = false := by kernel_rfl
theorem bd48 : Try.f48.body.isNone = false := by kernel_rfl
theorem nm49 : (Try.f49.name == "runtime.NumGoroutine") = false := by kernel_rfl
theorem bd49 : Try.f49.body.isNone = false := by kernel_rfl
theorem nm50 : (Try.f50.name == "runtime.NumGoroutine") = false := by kernel_rfl
theorem bd50 : Try.f50.body.isNone = false := by kernel_rfl
theorem nm51 : (Try.f51.name == "runtime.NumGoroutine") = false := by kernel_rfl
theorem bd51 : Try.f51.body.isNone = false := by kernel_rfl
theorem nm52 : (Try.f52.name == "runtime.NumGoroutine") = false := by kernel_rfl
theorem bd52 : Try.f52.body.isNone = false := by kernel_rfl
theorem nm53 : (Try.f53.name == "runtime.NumGoroutine") = false := by kernel_rfl
theorem bd53 : Try.f53.body.isNone = false := by kernel_rfl
theorem nm54 : (Try.f54.name == "runtime.NumGoroutine") = false := by kernel_rfl
theorem bd54 : Try.f54.body.isNone = false := by kernel_rfl
theorem nm55 : (Try.f55.name == "runtime.NumGoroutine") = false := by kernel_rfl
theorem bd55 : Try.f55.body.isNone = false := by kernel_rfl
theorem nm56 : (Try.f56.name == "runtime.NumGoroutine") = false := by kernel_rfl
theorem bd56 : Try.f56.body.isNone = false := by kernel_rfl
theorem nm57 : (Try.f57.name == "runtime.NumGoroutine") = false := by kernel_rfl
theorem bd57 : Try.f57.body.isNone = false := by kernel_rfl
theorem nm58 : (Try.f58.name == "runtime.NumGoroutine") = false := by kernel_rfl
theorem bd58 : Try.f58.body.isNone = false := by kernel_rfl
theorem mixed : Try.prog.follows .mixedOrders = true := by kernel_rfl
end Go.Proofs