import Derived.Test.YtiimggpjnjhkcaaV4
import Derived.Test.YtiimggpjnjhkcaaProg
import Derived.Shelf.Abstract
import Derived.KernelRfl
namespace Go.Proofs.Learn
open Go.V
theorem mixed : Try.prog.follows .mixedOrders = true := by kernel_rfl
theorem ei24 : EI Try.prog 24 4 32 := EI.of (z := (.agg #[(.int .i64 0), (.int .i64 0), (.int .i64 0), (.int .i64 0)])) (by kernel_rfl) rfl
theorem ei3 : EI Try.prog 3 1 8 := EI.of (z := (.int .i64 0)) (by kernel_rfl) rfl
theorem ei34 : EI Try.prog 34 1 24 := EI.of (z := (.slice none 0 0)) (by kernel_rfl) rfl
theorem ei35 : EI Try.prog 35 1 2 := EI.of (z := (.int .u16 0)) (by kernel_rfl) rfl
theorem ei49 : EI Try.prog 49 6 48 := EI.of (z := (.agg #[(.int .i64 0), (.int .i64 0), (.int .i64 0), (.int .i64 0), (.int .i64 0), (.int .i64 0)])) (by kernel_rfl) rfl
theorem ei5 : EI Try.prog 5 1 1 := EI.of (z := (.int .u8 0)) (by kernel_rfl) rfl
theorem ei57 : EI Try.prog 57 8 64 := EI.of (z := (.agg #[(.int .i64 0), (.int .i64 0), (.int .i64 0), (.int .i64 0), (.int .i64 0), (.int .i64 0), (.int .i64 0), (.int .i64 0)])) (by kernel_rfl) rfl
theorem ei63 : EI Try.prog 63 5 40 := EI.of (z := (.agg #[(.int .i64 0), (.int .i64 0), (.int .i64 0), (.int .i64 0), (.bool false)])) (by kernel_rfl) rfl
theorem ei79 : EI Try.prog 79 5 40 := EI.of (z := (.agg #[(.int .i64 0), (.int .i64 0), (.int .i64 0), (.int .i64 0), (.int .i64 0)])) (by kernel_rfl) rfl
theorem ent10 : ∀ args w, (callFunc 10 args).run Try.prog w = .ok (.enter 10 args) w := enters_of Try.func10 (by kernel_rfl) rfl
theorem ent11 : ∀ args w, (callFunc 11 args).run Try.prog w = .ok (.enter 11 args) w := enters_of Try.func11 (by kernel_rfl) rfl
theorem ent113 : ∀ args w, (callFunc 113 args).run Try.prog w = .ok (.enter 113 args) w := enters_of Try.func113 (by kernel_rfl) rfl
theorem ent114 : ∀ args w, (callFunc 114 args).run Try.prog w = .ok (.enter 114 args) w := enters_of Try.func114 (by kernel_rfl) rfl
theorem ent12 : ∀ args w, (callFunc 12 args).run Try.prog w = .ok (.enter 12 args) w := enters_of Try.func12 (by kernel_rfl) rfl
theorem ent13 : ∀ args w, (callFunc 13 args).run Try.prog w = .ok (.enter 13 args) w := enters_of Try.func13 (by kernel_rfl) rfl
theorem ent14 : ∀ args w, (callFunc 14 args).run Try.prog w = .ok (.enter 14 args) w := enters_of Try.func14 (by kernel_rfl) rfl
theorem ent15 : ∀ args w, (callFunc 15 args).run Try.prog w = .ok (.enter 15 args) w := enters_of Try.func15 (by kernel_rfl) rfl
theorem ent16 : ∀ args w, (callFunc 16 args).run Try.prog w = .ok (.enter 16 args) w := enters_of Try.func16 (by kernel_rfl) rfl
theorem ent17 : ∀ args w, (callFunc 17 args).run Try.prog w = .ok (.enter 17 args) w := enters_of Try.func17 (by kernel_rfl) rfl
theorem ent18 : ∀ args w, (callFunc 18 args).run Try.prog w = .ok (.enter 18 args) w := enters_of Try.func18 (by kernel_rfl) rfl
theorem ent19 : ∀ args w, (callFunc 19 args).run Try.prog w = .ok (.enter 19 args) w := enters_of Try.func19 (by kernel_rfl) rfl
theorem ent20 : ∀ args w, (callFunc 20 args).run Try.prog w = .ok (.enter 20 args) w := enters_of Try.func20 (by kernel_rfl) rfl
theorem ent21 : ∀ args w, (callFunc 21 args).run Try.prog w = .ok (.enter 21 args) w := enters_of Try.func21 (by kernel_rfl) rfl
theorem ent22 : ∀ args w, (callFunc 22 args).run Try.prog w = .ok (.enter 22 args) w := enters_of Try.func22 (by kernel_rfl) rfl
theorem ent23 : ∀ args w, (callFunc 23 args).run Try.prog w = .ok (.enter 23 args) w := enters_of Try.func23 (by kernel_rfl) rfl
theorem ent24 : ∀ args w, (callFunc 24 args).run Try.prog w = .ok (.enter 24 args) w := enters_of Try.func24 (by kernel_rfl) rfl
theorem ent25 : ∀ args w, (callFunc 25 args).run Try.prog w = .ok (.enter 25 args) w := enters_of Try.func25 (by kernel_rfl) rfl
theorem ent26 : ∀ args w, (callFunc 26 args).run Try.prog w = .ok (.enter 26 args) w := enters_of Try.func26 (by kernel_rfl) rfl
theorem ent27 : ∀ args w, (callFunc 27 args).run Try.prog w = .ok (.enter 27 args) w := enters_of Try.func27 (by kernel_rfl) rfl
theorem ent28 : ∀ args w, (callFunc 28 args).run Try.prog w = .ok (.enter 28 args) w := enters_of Try.func28 (by kernel_rfl) rfl
theorem ent29 : ∀ args w, (callFunc 29 args).run Try.prog w = .ok (.enter 29 args) w := enters_of Try.func29 (by kernel_rfl) rfl
theorem ent3 : ∀ args w, (callFunc 3 args).run Try.prog w = .ok (.enter 3 args) w := enters_of Try.func3 (by kernel_rfl) rfl
theorem ent30 : ∀ args w, (callFunc 30 args).run Try.prog w = .ok (.enter 30 args) w := enters_of Try.func30 (by kernel_rfl) rfl
theorem ent31 : ∀ args w, (callFunc 31 args).run Try.prog w = .ok (.enter 31 args) w := enters_of Try.func31 (by kernel_rfl) rfl
theorem ent32 : ∀ args w, (callFunc 32 args).run Try.prog w = .ok (.enter 32 args) w := enters_of Try.func32 (by kernel_rfl) rfl
theorem ent33 : ∀ args w, (callFunc 33 args).run Try.prog w = .ok (.enter 33 args) w := enters_of Try.func33 (by kernel_rfl) rfl
theorem ent34 : ∀ args w, (callFunc 34 args).run Try.prog w = .ok (.enter 34 args) w := enters_of Try.func34 (by kernel_rfl) rfl
theorem ent35 : ∀ args w, (callFunc 35 args).run Try.prog w = .ok (.enter 35 args) w := enters_of Try.func35 (by kernel_rfl) rfl
theorem ent36 : ∀ args w, (callFunc 36 args).run Try.prog w = .ok (.enter 36 args) w := enters_of Try.func36 (by kernel_rfl) rfl
theorem ent37 : ∀ args w, (callFunc 37 args).run Try.prog w = .ok (.enter 37 args) w := enters_of Try.func37 (by kernel_rfl) rfl
theorem ent38 : ∀ args w, (callFunc 38 args).run Try.prog w = .ok (.enter 38 args) w := enters_of Try.func38 (by kernel_rfl) rfl
theorem ent39 : ∀ args w, (callFunc 39 args).run Try.prog w = .ok (.enter 39 args) w := enters_of Try.func39 (by kernel_rfl) rfl
theorem ent4 : ∀ args w, (callFunc 4 args).run Try.prog w = .ok (.enter 4 args) w := enters_of Try.func4 (by kernel_rfl) rfl
theorem ent40 : ∀ args w, (callFunc 40 args).run Try.prog w = .ok (.enter 40 args) w := enters_of Try.func40 (by kernel_rfl) rfl
theorem ent41 : ∀ args w, (callFunc 41 args).run Try.prog w = .ok (.enter 41 args) w := enters_of Try.func41 (by kernel_rfl) rfl
theorem ent42 : ∀ args w, (callFunc 42 args).run Try.prog w = .ok (.enter 42 args) w := enters_of Try.func42 (by kernel_rfl) rfl
theorem ent43 : ∀ args w, (callFunc 43 args).run Try.prog w = .ok (.enter 43 args) w := enters_of Try.func43 (by kernel_rfl) rfl
theorem ent44 : ∀ args w, (callFunc 44 args).run Try.prog w = .ok (.enter 44 args) w := enters_of Try.func44 (by kernel_rfl) rfl
theorem ent45 : ∀ args w, (callFunc 45 args).run Try.prog w = .ok (.enter 45 args) w := enters_of Try.func45 (by kernel_rfl) rfl
theorem ent46 : ∀ args w, (callFunc 46 args).run Try.prog w = .ok (.enter 46 args) w := enters_of Try.func46 (by kernel_rfl) rfl
theorem ent47 : ∀ args w, (callFunc 47 args).run Try.prog w = .ok (.enter 47 args) w := enters_of Try.func47 (by kernel_rfl) rfl
theorem ent48 : ∀ args w, (callFunc 48 args).run Try.prog w = .ok (.enter 48 args) w := enters_of Try.func48 (by kernel_rfl) rfl
theorem ent49 : ∀ args w, (callFunc 49 args).run Try.prog w = .ok (.enter 49 args) w := enters_of Try.func49 (by kernel_rfl) rfl
theorem ent5 : ∀ args w, (callFunc 5 args).run Try.prog w = .ok (.enter 5 args) w := enters_of Try.func5 (by kernel_rfl) rfl
theorem ent50 : ∀ args w, (callFunc 50 args).run Try.prog w = .ok (.enter 50 args) w := enters_of Try.func50 (by kernel_rfl) rfl
theorem ent51 : ∀ args w, (callFunc 51 args).run Try.prog w = .ok (.enter 51 args) w := enters_of Try.func51 (by kernel_rfl) rfl
theorem ent52 : ∀ args w, (callFunc 52 args).run Try.prog w = .ok (.enter 52 args) w := enters_of Try.func52 (by kernel_rfl) rfl
theorem ent53 : ∀ args w, (callFunc 53 args).run Try.prog w = .ok (.enter 53 args) w := enters_of Try.func53 (by kernel_rfl) rfl
theorem ent54 : ∀ args w, (callFunc 54 args).run Try.prog w = .ok (.enter 54 args) w := enters_of Try.func54 (by kernel_rfl) rfl
theorem ent55 : ∀ args w, (callFunc 55 args).run Try.prog w = .ok (.enter 55 args) w := enters_of Try.func55 (by kernel_rfl) rfl
theorem ent56 : ∀ args w, (callFunc 56 args).run Try.prog w = .ok (.enter 56 args) w := enters_of Try.func56 (by kernel_rfl) rfl
theorem ent57 : ∀ args w, (callFunc 57 args).run Try.prog w = .ok (.enter 57 args) w := enters_of Try.func57 (by kernel_rfl) rfl
theorem ent58 : ∀ args w, (callFunc 58 args).run Try.prog w = .ok (.enter 58 args) w := enters_of Try.func58 (by kernel_rfl) rfl
theorem ent59 : ∀ args w, (callFunc 59 args).run Try.prog w = .ok (.enter 59 args) w := enters_of Try.func59 (by kernel_rfl) rfl
theorem ent6 : ∀ args w, (callFunc 6 args).run Try.prog w = .ok (.enter 6 args) w := enters_of Try.func6 (by kernel_rfl) rfl
theorem ent60 : ∀ args w, (callFunc 60 args).run Try.prog w = .ok (.enter 60 args) w := enters_of Try.func60 (by kernel_rfl) rfl
theorem ent61 : ∀ args w, (callFunc 61 args).run Try.prog w = .ok (.enter 61 args) w := enters_of Try.func61 (by kernel_rfl) rfl
theorem ent62 : ∀ args w, (callFunc 62 args).run Try.prog w = .ok (.enter 62 args) w := enters_of Try.func62 (by kernel_rfl) rfl
theorem ent63 : ∀ args w, (callFunc 63 args).run Try.prog w = .ok (.enter 63 args) w := enters_of Try.func63 (by kernel_rfl) rfl
theorem ent64 : ∀ args w, (callFunc 64 args).run Try.prog w = .ok (.enter 64 args) w := enters_of Try.func64 (by kernel_rfl) rfl
theorem ent65 : ∀ args w, (callFunc 65 args).run Try.prog w = .ok (.enter 65 args) w := enters_of Try.func65 (by kernel_rfl) rfl
theorem ent66 : ∀ args w, (callFunc 66 args).run Try.prog w = .ok (.enter 66 args) w := enters_of Try.func66 (by kernel_rfl) rfl
theorem ent67 : ∀ args w, (callFunc 67 args).run Try.prog w = .ok (.enter 67 args) w := enters_of Try.func67 (by kernel_rfl) rfl
theorem ent68 : ∀ args w, (callFunc 68 args).run Try.prog w = .ok (.enter 68 args) w := enters_of Try.func68 (by kernel_rfl) rfl
theorem ent69 : ∀ args w, (callFunc 69 args).run Try.prog w = .ok (.enter 69 args) w := enters_of Try.func69 (by kernel_rfl) rfl
theorem ent7 : ∀ args w, (callFunc 7 args).run Try.prog w = .ok (.enter 7 args) w := enters_of Try.func7 (by kernel_rfl) rfl
theorem ent70 : ∀ args w, (callFunc 70 args).run Try.prog w = .ok (.enter 70 args) w := enters_of Try.func70 (by kernel_rfl) rfl
theorem ent71 : ∀ args w, (callFunc 71 args).run Try.prog w = .ok (.enter 71 args) w := enters_of Try.func71 (by kernel_rfl) rfl
theorem ent72 : ∀ args w, (callFunc 72 args).run Try.prog w = .ok (.enter 72 args) w := enters_of Try.func72 (by kernel_rfl) rfl
theorem ent73 : ∀ args w, (callFunc 73 args).run Try.prog w = .ok (.enter 73 args) w := enters_of Try.func73 (by kernel_rfl) rfl
theorem ent74 : ∀ args w, (callFunc 74 args).run Try.prog w = .ok (.enter 74 args) w := enters_of Try.func74 (by kernel_rfl) rfl
theorem ent75 : ∀ args w, (callFunc 75 args).run Try.prog w = .ok (.enter 75 args) w := enters_of Try.func75 (by kernel_rfl) rfl
theorem ent76 : ∀ args w, (callFunc 76 args).run Try.prog w = .ok (.enter 76 args) w := enters_of Try.func76 (by kernel_rfl) rfl
theorem ent77 : ∀ args w, (callFunc 77 args).run Try.prog w = .ok (.enter 77 args) w := enters_of Try.func77 (by kernel_rfl) rfl
theorem ent78 : ∀ args w, (callFunc 78 args).run Try.prog w = .ok (.enter 78 args) w := enters_of Try.func78 (by kernel_rfl) rfl
theorem ent79 : ∀ args w, (callFunc 79 args).run Try.prog w = .ok (.enter 79 args) w := enters_of Try.func79 (by kernel_rfl) rfl
theorem ent8 : ∀ args w, (callFunc 8 args).run Try.prog w = .ok (.enter 8 args) w := enters_of Try.func8 (by kernel_rfl) rfl
theorem ent80 : ∀ args w, (callFunc 80 args).run Try.prog w = .ok (.enter 80 args) w := enters_of Try.func80 (by kernel_rfl) rfl
theorem ent81 : ∀ args w, (callFunc 81 args).run Try.prog w = .ok (.enter 81 args) w := enters_of Try.func81 (by kernel_rfl) rfl
theorem ent82 : ∀ args w, (callFunc 82 args).run Try.prog w = .ok (.enter 82 args) w := enters_of Try.func82 (by kernel_rfl) rfl
theorem ent83 : ∀ args w, (callFunc 83 args).run Try.prog w = .ok (.enter 83 args) w := enters_of Try.func83 (by kernel_rfl) rfl
theorem ent84 : ∀ args w, (callFunc 84 args).run Try.prog w = .ok (.enter 84 args) w := enters_of Try.func84 (by kernel_rfl) rfl
theorem ent85 : ∀ args w, (callFunc 85 args).run Try.prog w = .ok (.enter 85 args) w := enters_of Try.func85 (by kernel_rfl) rfl
theorem ent86 : ∀ args w, (callFunc 86 args).run Try.prog w = .ok (.enter 86 args) w := enters_of Try.func86 (by kernel_rfl) rfl
theorem ent87 : ∀ args w, (callFunc 87 args).run Try.prog w = .ok (.enter 87 args) w := enters_of Try.func87 (by kernel_rfl) rfl
theorem ent88 : ∀ args w, (callFunc 88 args).run Try.prog w = .ok (.enter 88 args) w := enters_of Try.func88 (by kernel_rfl) rfl
theorem ent89 : ∀ args w, (callFunc 89 args).run Try.prog w = .ok (.enter 89 args) w := enters_of Try.func89 (by kernel_rfl) rfl
theorem ent9 : ∀ args w, (callFunc 9 args).run Try.prog w = .ok (.enter 9 args) w := enters_of Try.func9 (by kernel_rfl) rfl
theorem ent90 : ∀ args w, (callFunc 90 args).run Try.prog w = .ok (.enter 90 args) w := enters_of Try.func90 (by kernel_rfl) rfl
theorem ent91 : ∀ args w, (callFunc 91 args).run Try.prog w = .ok (.enter 91 args) w := enters_of Try.func91 (by kernel_rfl) rfl
theorem ent92 : ∀ args w, (callFunc 92 args).run Try.prog w = .ok (.enter 92 args) w := enters_of Try.func92 (by kernel_rfl) rfl
theorem ent93 : ∀ args w, (callFunc 93 args).run Try.prog w = .ok (.enter 93 args) w := enters_of Try.func93 (by kernel_rfl) rfl
theorem ent94 : ∀ args w, (callFunc 94 args).run Try.prog w = .ok (.enter 94 args) w := enters_of Try.func94 (by kernel_rfl) rfl
theorem ent95 : ∀ args w, (callFunc 95 args).run Try.prog w = .ok (.enter 95 args) w := enters_of Try.func95 (by kernel_rfl) rfl
theorem ent96 : ∀ args w, (callFunc 96 args).run Try.prog w = .ok (.enter 96 args) w := enters_of Try.func96 (by kernel_rfl) rfl
theorem ent97 : ∀ args w, (callFunc 97 args).run Try.prog w = .ok (.enter 97 args) w := enters_of Try.func97 (by kernel_rfl) rfl
theorem fa102_0 : ∀ (p : Addr) (w : World), (Instr.fieldAt 102 (.pointer (some p)) 0).run Try.prog w = .ok (.pointer (some (p.add 0))) w := fun _ _ => by kernel_rfl
theorem fa102_1 : ∀ (p : Addr) (w : World), (Instr.fieldAt 102 (.pointer (some p)) 1).run Try.prog w = .ok (.pointer (some (p.add 1))) w := fun _ _ => by kernel_rfl
theorem fa102_2 : ∀ (p : Addr) (w : World), (Instr.fieldAt 102 (.pointer (some p)) 2).run Try.prog w = .ok (.pointer (some (p.add 2))) w := fun _ _ => by kernel_rfl
theorem fa102_3 : ∀ (p : Addr) (w : World), (Instr.fieldAt 102 (.pointer (some p)) 3).run Try.prog w = .ok (.pointer (some (p.add 3))) w := fun _ _ => by kernel_rfl
theorem fa102_4 : ∀ (p : Addr) (w : World), (Instr.fieldAt 102 (.pointer (some p)) 4).run Try.prog w = .ok (.pointer (some (p.add 4))) w := fun _ _ => by kernel_rfl
theorem fa102_5 : ∀ (p : Addr) (w : World), (Instr.fieldAt 102 (.pointer (some p)) 5).run Try.prog w = .ok (.pointer (some (p.add 5))) w := fun _ _ => by kernel_rfl
theorem fa102_6 : ∀ (p : Addr) (w : World), (Instr.fieldAt 102 (.pointer (some p)) 6).run Try.prog w = .ok (.pointer (some (p.add 6))) w := fun _ _ => by kernel_rfl
theorem fa103_0 : ∀ (p : Addr) (w : World), (Instr.fieldAt 103 (.pointer (some p)) 0).run Try.prog w = .ok (.pointer (some (p.add 0))) w := fun _ _ => by kernel_rfl
theorem fa103_1 : ∀ (p : Addr) (w : World), (Instr.fieldAt 103 (.pointer (some p)) 1).run Try.prog w = .ok (.pointer (some (p.add 1))) w := fun _ _ => by kernel_rfl
theorem fa103_2 : ∀ (p : Addr) (w : World), (Instr.fieldAt 103 (.pointer (some p)) 2).run Try.prog w = .ok (.pointer (some (p.add 2))) w := fun _ _ => by kernel_rfl
theorem fa103_3 : ∀ (p : Addr) (w : World), (Instr.fieldAt 103 (.pointer (some p)) 3).run Try.prog w = .ok (.pointer (some (p.add 3))) w := fun _ _ => by kernel_rfl
theorem fa103_4 : ∀ (p : Addr) (w : World), (Instr.fieldAt 103 (.pointer (some p)) 4).run Try.prog w = .ok (.pointer (some (p.add 4))) w := fun _ _ => by kernel_rfl
theorem fa103_5 : ∀ (p : Addr) (w : World), (Instr.fieldAt 103 (.pointer (some p)) 5).run Try.prog w = .ok (.pointer (some (p.add 5))) w := fun _ _ => by kernel_rfl
theorem fa103_6 : ∀ (p : Addr) (w : World), (Instr.fieldAt 103 (.pointer (some p)) 6).run Try.prog w = .ok (.pointer (some (p.add 6))) w := fun _ _ => by kernel_rfl
theorem fa117_0 : ∀ (p : Addr) (w : World), (Instr.fieldAt 117 (.pointer (some p)) 0).run Try.prog w = .ok (.pointer (some (p.add 0))) w := fun _ _ => by kernel_rfl
theorem fa117_1 : ∀ (p : Addr) (w : World), (Instr.fieldAt 117 (.pointer (some p)) 1).run Try.prog w = .ok (.pointer (some (p.add 3))) w := fun _ _ => by kernel_rfl
theorem fa117_2 : ∀ (p : Addr) (w : World), (Instr.fieldAt 117 (.pointer (some p)) 2).run Try.prog w = .ok (.pointer (some (p.add 11))) w := fun _ _ => by kernel_rfl
theorem fa118_0 : ∀ (p : Addr) (w : World), (Instr.fieldAt 118 (.pointer (some p)) 0).run Try.prog w = .ok (.pointer (some (p.add 0))) w := fun _ _ => by kernel_rfl
theorem fa118_1 : ∀ (p : Addr) (w : World), (Instr.fieldAt 118 (.pointer (some p)) 1).run Try.prog w = .ok (.pointer (some (p.add 3))) w := fun _ _ => by kernel_rfl
theorem fa118_2 : ∀ (p : Addr) (w : World), (Instr.fieldAt 118 (.pointer (some p)) 2).run Try.prog w = .ok (.pointer (some (p.add 11))) w := fun _ _ => by kernel_rfl
theorem fa23_0 : ∀ (p : Addr) (w : World), (Instr.fieldAt 23 (.pointer (some p)) 0).run Try.prog w = .ok (.pointer (some (p.add 0))) w := fun _ _ => by kernel_rfl
theorem fa23_1 : ∀ (p : Addr) (w : World), (Instr.fieldAt 23 (.pointer (some p)) 1).run Try.prog w = .ok (.pointer (some (p.add 3))) w := fun _ _ => by kernel_rfl
theorem fa24_0 : ∀ (p : Addr) (w : World), (Instr.fieldAt 24 (.pointer (some p)) 0).run Try.prog w = .ok (.pointer (some (p.add 0))) w := fun _ _ => by kernel_rfl
theorem fa24_1 : ∀ (p : Addr) (w : World), (Instr.fieldAt 24 (.pointer (some p)) 1).run Try.prog w = .ok (.pointer (some (p.add 3))) w := fun _ _ => by kernel_rfl
theorem fa48_0 : ∀ (p : Addr) (w : World), (Instr.fieldAt 48 (.pointer (some p)) 0).run Try.prog w = .ok (.pointer (some (p.add 0))) w := fun _ _ => by kernel_rfl
theorem fa48_1 : ∀ (p : Addr) (w : World), (Instr.fieldAt 48 (.pointer (some p)) 1).run Try.prog w = .ok (.pointer (some (p.add 1))) w := fun _ _ => by kernel_rfl
theorem fa48_2 : ∀ (p : Addr) (w : World), (Instr.fieldAt 48 (.pointer (some p)) 2).run Try.prog w = .ok (.pointer (some (p.add 2))) w := fun _ _ => by kernel_rfl
theorem fa48_3 : ∀ (p : Addr) (w : World), (Instr.fieldAt 48 (.pointer (some p)) 3).run Try.prog w = .ok (.pointer (some (p.add 3))) w := fun _ _ => by kernel_rfl
theorem fa48_4 : ∀ (p : Addr) (w : World), (Instr.fieldAt 48 (.pointer (some p)) 4).run Try.prog w = .ok (.pointer (some (p.add 4))) w := fun _ _ => by kernel_rfl
theorem fa48_5 : ∀ (p : Addr) (w : World), (Instr.fieldAt 48 (.pointer (some p)) 5).run Try.prog w = .ok (.pointer (some (p.add 5))) w := fun _ _ => by kernel_rfl
theorem fa49_0 : ∀ (p : Addr) (w : World), (Instr.fieldAt 49 (.pointer (some p)) 0).run Try.prog w = .ok (.pointer (some (p.add 0))) w := fun _ _ => by kernel_rfl
theorem fa49_1 : ∀ (p : Addr) (w : World), (Instr.fieldAt 49 (.pointer (some p)) 1).run Try.prog w = .ok (.pointer (some (p.add 1))) w := fun _ _ => by kernel_rfl
theorem fa49_2 : ∀ (p : Addr) (w : World), (Instr.fieldAt 49 (.pointer (some p)) 2).run Try.prog w = .ok (.pointer (some (p.add 2))) w := fun _ _ => by kernel_rfl
theorem fa49_3 : ∀ (p : Addr) (w : World), (Instr.fieldAt 49 (.pointer (some p)) 3).run Try.prog w = .ok (.pointer (some (p.add 3))) w := fun _ _ => by kernel_rfl
theorem fa49_4 : ∀ (p : Addr) (w : World), (Instr.fieldAt 49 (.pointer (some p)) 4).run Try.prog w = .ok (.pointer (some (p.add 4))) w := fun _ _ => by kernel_rfl
theorem fa49_5 : ∀ (p : Addr) (w : World), (Instr.fieldAt 49 (.pointer (some p)) 5).run Try.prog w = .ok (.pointer (some (p.add 5))) w := fun _ _ => by kernel_rfl
theorem fa56_0 : ∀ (p : Addr) (w : World), (Instr.fieldAt 56 (.pointer (some p)) 0).run Try.prog w = .ok (.pointer (some (p.add 0))) w := fun _ _ => by kernel_rfl
theorem fa56_1 : ∀ (p : Addr) (w : World), (Instr.fieldAt 56 (.pointer (some p)) 1).run Try.prog w = .ok (.pointer (some (p.add 3))) w := fun _ _ => by kernel_rfl
theorem fa56_2 : ∀ (p : Addr) (w : World), (Instr.fieldAt 56 (.pointer (some p)) 2).run Try.prog w = .ok (.pointer (some (p.add 4))) w := fun _ _ => by kernel_rfl
theorem fa56_3 : ∀ (p : Addr) (w : World), (Instr.fieldAt 56 (.pointer (some p)) 3).run Try.prog w = .ok (.pointer (some (p.add 5))) w := fun _ _ => by kernel_rfl
theorem fa56_4 : ∀ (p : Addr) (w : World), (Instr.fieldAt 56 (.pointer (some p)) 4).run Try.prog w = .ok (.pointer (some (p.add 6))) w := fun _ _ => by kernel_rfl
theorem fa56_5 : ∀ (p : Addr) (w : World), (Instr.fieldAt 56 (.pointer (some p)) 5).run Try.prog w = .ok (.pointer (some (p.add 7))) w := fun _ _ => by kernel_rfl
theorem fa57_0 : ∀ (p : Addr) (w : World), (Instr.fieldAt 57 (.pointer (some p)) 0).run Try.prog w = .ok (.pointer (some (p.add 0))) w := fun _ _ => by kernel_rfl
theorem fa57_1 : ∀ (p : Addr) (w : World), (Instr.fieldAt 57 (.pointer (some p)) 1).run Try.prog w = .ok (.pointer (some (p.add 3))) w := fun _ _ => by kernel_rfl
theorem fa57_2 : ∀ (p : Addr) (w : World), (Instr.fieldAt 57 (.pointer (some p)) 2).run Try.prog w = .ok (.pointer (some (p.add 4))) w := fun _ _ => by kernel_rfl
theorem fa57_3 : ∀ (p : Addr) (w : World), (Instr.fieldAt 57 (.pointer (some p)) 3).run Try.prog w = .ok (.pointer (some (p.add 5))) w := fun _ _ => by kernel_rfl
theorem fa57_4 : ∀ (p : Addr) (w : World), (Instr.fieldAt 57 (.pointer (some p)) 4).run Try.prog w = .ok (.pointer (some (p.add 6))) w := fun _ _ => by kernel_rfl
theorem fa57_5 : ∀ (p : Addr) (w : World), (Instr.fieldAt 57 (.pointer (some p)) 5).run Try.prog w = .ok (.pointer (some (p.add 7))) w := fun _ _ => by kernel_rfl
theorem fa62_0 : ∀ (p : Addr) (w : World), (Instr.fieldAt 62 (.pointer (some p)) 0).run Try.prog w = .ok (.pointer (some (p.add 0))) w := fun _ _ => by kernel_rfl
theorem fa62_1 : ∀ (p : Addr) (w : World), (Instr.fieldAt 62 (.pointer (some p)) 1).run Try.prog w = .ok (.pointer (some (p.add 4))) w := fun _ _ => by kernel_rfl
theorem fa63_0 : ∀ (p : Addr) (w : World), (Instr.fieldAt 63 (.pointer (some p)) 0).run Try.prog w = .ok (.pointer (some (p.add 0))) w := fun _ _ => by kernel_rfl
theorem fa63_1 : ∀ (p : Addr) (w : World), (Instr.fieldAt 63 (.pointer (some p)) 1).run Try.prog w = .ok (.pointer (some (p.add 4))) w := fun _ _ => by kernel_rfl
theorem fa68_0 : ∀ (p : Addr) (w : World), (Instr.fieldAt 68 (.pointer (some p)) 0).run Try.prog w = .ok (.pointer (some (p.add 0))) w := fun _ _ => by kernel_rfl
theorem fa68_1 : ∀ (p : Addr) (w : World), (Instr.fieldAt 68 (.pointer (some p)) 1).run Try.prog w = .ok (.pointer (some (p.add 1))) w := fun _ _ => by kernel_rfl
theorem fa68_2 : ∀ (p : Addr) (w : World), (Instr.fieldAt 68 (.pointer (some p)) 2).run Try.prog w = .ok (.pointer (some (p.add 2))) w := fun _ _ => by kernel_rfl
theorem fa69_0 : ∀ (p : Addr) (w : World), (Instr.fieldAt 69 (.pointer (some p)) 0).run Try.prog w = .ok (.pointer (some (p.add 0))) w := fun _ _ => by kernel_rfl
theorem fa69_1 : ∀ (p : Addr) (w : World), (Instr.fieldAt 69 (.pointer (some p)) 1).run Try.prog w = .ok (.pointer (some (p.add 1))) w := fun _ _ => by kernel_rfl
theorem fa69_2 : ∀ (p : Addr) (w : World), (Instr.fieldAt 69 (.pointer (some p)) 2).run Try.prog w = .ok (.pointer (some (p.add 2))) w := fun _ _ => by kernel_rfl
theorem fa71_0 : ∀ (p : Addr) (w : World), (Instr.fieldAt 71 (.pointer (some p)) 0).run Try.prog w = .ok (.pointer (some (p.add 0))) w := fun _ _ => by kernel_rfl
theorem fa71_1 : ∀ (p : Addr) (w : World), (Instr.fieldAt 71 (.pointer (some p)) 1).run Try.prog w = .ok (.pointer (some (p.add 1))) w := fun _ _ => by kernel_rfl
theorem fa72_0 : ∀ (p : Addr) (w : World), (Instr.fieldAt 72 (.pointer (some p)) 0).run Try.prog w = .ok (.pointer (some (p.add 0))) w := fun _ _ => by kernel_rfl
theorem fa72_1 : ∀ (p : Addr) (w : World), (Instr.fieldAt 72 (.pointer (some p)) 1).run Try.prog w = .ok (.pointer (some (p.add 1))) w := fun _ _ => by kernel_rfl
theorem fa78_0 : ∀ (p : Addr) (w : World), (Instr.fieldAt 78 (.pointer (some p)) 0).run Try.prog w = .ok (.pointer (some (p.add 0))) w := fun _ _ => by kernel_rfl
theorem fa78_1 : ∀ (p : Addr) (w : World), (Instr.fieldAt 78 (.pointer (some p)) 1).run Try.prog w = .ok (.pointer (some (p.add 4))) w := fun _ _ => by kernel_rfl
theorem fa79_0 : ∀ (p : Addr) (w : World), (Instr.fieldAt 79 (.pointer (some p)) 0).run Try.prog w = .ok (.pointer (some (p.add 0))) w := fun _ _ => by kernel_rfl
theorem fa79_1 : ∀ (p : Addr) (w : World), (Instr.fieldAt 79 (.pointer (some p)) 1).run Try.prog w = .ok (.pointer (some (p.add 4))) w := fun _ _ => by kernel_rfl
theorem ti10 : TI Try.prog 10 false 1 := ⟨fun _ => by kernel_rfl, fun _ => by kernel_rfl⟩
theorem ti101 : TI Try.prog 101 false 1 := ⟨fun _ => by kernel_rfl, fun _ => by kernel_rfl⟩
theorem ti102 : TI Try.prog 102 true 7 := ⟨fun _ => by kernel_rfl, fun _ => by kernel_rfl⟩
theorem ti103 : TI Try.prog 103 true 7 := ⟨fun _ => by kernel_rfl, fun _ => by kernel_rfl⟩
theorem ti105 : TI Try.prog 105 false 1 := ⟨fun _ => by kernel_rfl, fun _ => by kernel_rfl⟩
theorem ti11 : TI Try.prog 11 false 1 := ⟨fun _ => by kernel_rfl, fun _ => by kernel_rfl⟩
theorem ti115 : TI Try.prog 115 false 1 := ⟨fun _ => by kernel_rfl, fun _ => by kernel_rfl⟩
theorem ti116 : TI Try.prog 116 true 24 := ⟨fun _ => by kernel_rfl, fun _ => by kernel_rfl⟩
theorem ti117 : TI Try.prog 117 true 35 := ⟨fun _ => by kernel_rfl, fun _ => by kernel_rfl⟩
theorem ti118 : TI Try.prog 118 true 35 := ⟨fun _ => by kernel_rfl, fun _ => by kernel_rfl⟩
theorem ti12 : TI Try.prog 12 false 1 := ⟨fun _ => by kernel_rfl, fun _ => by kernel_rfl⟩
theorem ti126 : TI Try.prog 126 false 1 := ⟨fun _ => by kernel_rfl, fun _ => by kernel_rfl⟩
theorem ti13 : TI Try.prog 13 true 2 := ⟨fun _ => by kernel_rfl, fun _ => by kernel_rfl⟩
theorem ti134 : TI Try.prog 134 false 1 := ⟨fun _ => by kernel_rfl, fun _ => by kernel_rfl⟩
theorem ti136 : TI Try.prog 136 false 1 := ⟨fun _ => by kernel_rfl, fun _ => by kernel_rfl⟩
theorem ti14 : TI Try.prog 14 true 2 := ⟨fun _ => by kernel_rfl, fun _ => by kernel_rfl⟩
theorem ti143 : TI Try.prog 143 false 1 := ⟨fun _ => by kernel_rfl, fun _ => by kernel_rfl⟩
theorem ti147 : TI Try.prog 147 false 1 := ⟨fun _ => by kernel_rfl, fun _ => by kernel_rfl⟩
theorem ti15 : TI Try.prog 15 false 1 := ⟨fun _ => by kernel_rfl, fun _ => by kernel_rfl⟩
theorem ti151 : TI Try.prog 151 false 1 := ⟨fun _ => by kernel_rfl, fun _ => by kernel_rfl⟩
theorem ti155 : TI Try.prog 155 true 4 := ⟨fun _ => by kernel_rfl, fun _ => by kernel_rfl⟩
theorem ti156 : TI Try.prog 156 true 4 := ⟨fun _ => by kernel_rfl, fun _ => by kernel_rfl⟩
theorem ti16 : TI Try.prog 16 false 1 := ⟨fun _ => by kernel_rfl, fun _ => by kernel_rfl⟩
theorem ti160 : TI Try.prog 160 false 1 := ⟨fun _ => by kernel_rfl, fun _ => by kernel_rfl⟩
theorem ti161 : TI Try.prog 161 false 1 := ⟨fun _ => by kernel_rfl, fun _ => by kernel_rfl⟩
theorem ti163 : TI Try.prog 163 false 1 := ⟨fun _ => by kernel_rfl, fun _ => by kernel_rfl⟩
theorem ti164 : TI Try.prog 164 false 1 := ⟨fun _ => by kernel_rfl, fun _ => by kernel_rfl⟩
theorem ti165 : TI Try.prog 165 false 1 := ⟨fun _ => by kernel_rfl, fun _ => by kernel_rfl⟩
theorem ti166 : TI Try.prog 166 true 11 := ⟨fun _ => by kernel_rfl, fun _ => by kernel_rfl⟩
theorem ti167 : TI Try.prog 167 true 11 := ⟨fun _ => by kernel_rfl, fun _ => by kernel_rfl⟩
theorem ti17 : TI Try.prog 17 false 1 := ⟨fun _ => by kernel_rfl, fun _ => by kernel_rfl⟩
theorem ti18 : TI Try.prog 18 true 1 := ⟨fun _ => by kernel_rfl, fun _ => by kernel_rfl⟩
theorem ti19 : TI Try.prog 19 true 1 := ⟨fun _ => by kernel_rfl, fun _ => by kernel_rfl⟩
theorem ti2 : TI Try.prog 2 false 1 := ⟨fun _ => by kernel_rfl, fun _ => by kernel_rfl⟩
theorem ti21 : TI Try.prog 21 false 1 := ⟨fun _ => by kernel_rfl, fun _ => by kernel_rfl⟩
theorem ti22 : TI Try.prog 22 true 3 := ⟨fun _ => by kernel_rfl, fun _ => by kernel_rfl⟩
theorem ti23 : TI Try.prog 23 true 4 := ⟨fun _ => by kernel_rfl, fun _ => by kernel_rfl⟩
theorem ti24 : TI Try.prog 24 true 4 := ⟨fun _ => by kernel_rfl, fun _ => by kernel_rfl⟩
theorem ti25 : TI Try.prog 25 false 1 := ⟨fun _ => by kernel_rfl, fun _ => by kernel_rfl⟩
theorem ti27 : TI Try.prog 27 false 1 := ⟨fun _ => by kernel_rfl, fun _ => by kernel_rfl⟩
theorem ti3 : TI Try.prog 3 false 1 := ⟨fun _ => by kernel_rfl, fun _ => by kernel_rfl⟩
theorem ti30 : TI Try.prog 30 false 1 := ⟨fun _ => by kernel_rfl, fun _ => by kernel_rfl⟩
theorem ti34 : TI Try.prog 34 false 1 := ⟨fun _ => by kernel_rfl, fun _ => by kernel_rfl⟩
theorem ti35 : TI Try.prog 35 false 1 := ⟨fun _ => by kernel_rfl, fun _ => by kernel_rfl⟩
theorem ti4 : TI Try.prog 4 false 1 := ⟨fun _ => by kernel_rfl, fun _ => by kernel_rfl⟩
theorem ti43 : TI Try.prog 43 false 1 := ⟨fun _ => by kernel_rfl, fun _ => by kernel_rfl⟩
theorem ti46 : TI Try.prog 46 false 1 := ⟨fun _ => by kernel_rfl, fun _ => by kernel_rfl⟩
theorem ti47 : TI Try.prog 47 false 1 := ⟨fun _ => by kernel_rfl, fun _ => by kernel_rfl⟩
theorem ti48 : TI Try.prog 48 true 6 := ⟨fun _ => by kernel_rfl, fun _ => by kernel_rfl⟩
theorem ti49 : TI Try.prog 49 true 6 := ⟨fun _ => by kernel_rfl, fun _ => by kernel_rfl⟩
theorem ti5 : TI Try.prog 5 false 1 := ⟨fun _ => by kernel_rfl, fun _ => by kernel_rfl⟩
theorem ti50 : TI Try.prog 50 true 8 := ⟨fun _ => by kernel_rfl, fun _ => by kernel_rfl⟩
theorem ti54 : TI Try.prog 54 false 1 := ⟨fun _ => by kernel_rfl, fun _ => by kernel_rfl⟩
theorem ti55 : TI Try.prog 55 false 1 := ⟨fun _ => by kernel_rfl, fun _ => by kernel_rfl⟩
theorem ti56 : TI Try.prog 56 true 8 := ⟨fun _ => by kernel_rfl, fun _ => by kernel_rfl⟩
theorem ti57 : TI Try.prog 57 true 8 := ⟨fun _ => by kernel_rfl, fun _ => by kernel_rfl⟩
theorem ti6 : TI Try.prog 6 false 1 := ⟨fun _ => by kernel_rfl, fun _ => by kernel_rfl⟩
theorem ti61 : TI Try.prog 61 false 1 := ⟨fun _ => by kernel_rfl, fun _ => by kernel_rfl⟩
theorem ti62 : TI Try.prog 62 true 5 := ⟨fun _ => by kernel_rfl, fun _ => by kernel_rfl⟩
theorem ti63 : TI Try.prog 63 true 5 := ⟨fun _ => by kernel_rfl, fun _ => by kernel_rfl⟩
theorem ti67 : TI Try.prog 67 false 1 := ⟨fun _ => by kernel_rfl, fun _ => by kernel_rfl⟩
theorem ti68 : TI Try.prog 68 true 3 := ⟨fun _ => by kernel_rfl, fun _ => by kernel_rfl⟩
theorem ti69 : TI Try.prog 69 true 3 := ⟨fun _ => by kernel_rfl, fun _ => by kernel_rfl⟩
theorem ti7 : TI Try.prog 7 true 4 := ⟨fun _ => by kernel_rfl, fun _ => by kernel_rfl⟩
theorem ti71 : TI Try.prog 71 true 2 := ⟨fun _ => by kernel_rfl, fun _ => by kernel_rfl⟩
theorem ti72 : TI Try.prog 72 true 2 := ⟨fun _ => by kernel_rfl, fun _ => by kernel_rfl⟩
theorem ti75 : TI Try.prog 75 false 1 := ⟨fun _ => by kernel_rfl, fun _ => by kernel_rfl⟩
theorem ti78 : TI Try.prog 78 true 5 := ⟨fun _ => by kernel_rfl, fun _ => by kernel_rfl⟩
theorem ti79 : TI Try.prog 79 true 5 := ⟨fun _ => by kernel_rfl, fun _ => by kernel_rfl⟩
theorem ti8 : TI Try.prog 8 true 4 := ⟨fun _ => by kernel_rfl, fun _ => by kernel_rfl⟩
theorem ti85 : TI Try.prog 85 true 8 := ⟨fun _ => by kernel_rfl, fun _ => by kernel_rfl⟩
theorem ti9 : TI Try.prog 9 false 1 := ⟨fun _ => by kernel_rfl, fun _ => by kernel_rfl⟩
theorem ti91 : TI Try.prog 91 false 1 := ⟨fun _ => by kernel_rfl, fun _ => by kernel_rfl⟩
theorem un10 : Try.prog.underlying 10 = some .string := by kernel_rfl
theorem un101 : Try.prog.underlying 101 = some (.pointer 103) := by kernel_rfl
theorem un105 : Try.prog.underlying 105 = some (.int .u64) := by kernel_rfl
theorem un11 : Try.prog.underlying 11 = some .string := by kernel_rfl
theorem un115 : Try.prog.underlying 115 = some (.pointer 118) := by kernel_rfl
theorem un116 : Try.prog.underlying 116 = some (.array 3 85) := by kernel_rfl
theorem un12 : Try.prog.underlying 12 = some (.int .u64) := by kernel_rfl
theorem un126 : Try.prog.underlying 126 = some (.int .i64) := by kernel_rfl
theorem un134 : Try.prog.underlying 134 = some (.int .u32) := by kernel_rfl
theorem un136 : Try.prog.underlying 136 = some (.int .u64) := by kernel_rfl
theorem un143 : Try.prog.underlying 143 = some (.int .u64) := by kernel_rfl
theorem un147 : Try.prog.underlying 147 = some (.pointer 3) := by kernel_rfl
theorem un15 : Try.prog.underlying 15 = some (.pointer 156) := by kernel_rfl
theorem un151 : Try.prog.underlying 151 = some (.pointer 143) := by kernel_rfl
theorem un157 : Try.prog.underlying 157 = some (.array 0 16) := by kernel_rfl
theorem un16 : Try.prog.underlying 16 = some (.pointer 159) := by kernel_rfl
theorem un160 : Try.prog.underlying 160 = some (.int .u8) := by kernel_rfl
theorem un161 : Try.prog.underlying 161 = some (.int .u8) := by kernel_rfl
theorem un163 : Try.prog.underlying 163 = some (.pointer 5) := by kernel_rfl
theorem un164 : Try.prog.underlying 164 = some (.int .i32) := by kernel_rfl
theorem un165 : Try.prog.underlying 165 = some (.int .i32) := by kernel_rfl
theorem un17 : Try.prog.underlying 17 = some (.pointer 167) := by kernel_rfl
theorem un2 : Try.prog.underlying 2 = some (.int .i64) := by kernel_rfl
theorem un21 : Try.prog.underlying 21 = some (.int .i32) := by kernel_rfl
theorem un22 : Try.prog.underlying 22 = some (.array 3 3) := by kernel_rfl
theorem un25 : Try.prog.underlying 25 = some (.pointer 69) := by kernel_rfl
theorem un27 : Try.prog.underlying 27 = some (.int .i64) := by kernel_rfl
theorem un3 : Try.prog.underlying 3 = some (.int .i64) := by kernel_rfl
theorem un30 : Try.prog.underlying 30 = some (.slice 5) := by kernel_rfl
theorem un34 : Try.prog.underlying 34 = some (.slice 24) := by kernel_rfl
theorem un35 : Try.prog.underlying 35 = some (.int .u16) := by kernel_rfl
theorem un4 : Try.prog.underlying 4 = some .bool := by kernel_rfl
theorem un43 : Try.prog.underlying 43 = some (.slice 49) := by kernel_rfl
theorem un46 : Try.prog.underlying 46 = some (.slice 3) := by kernel_rfl
theorem un47 : Try.prog.underlying 47 = some (.slice 34) := by kernel_rfl
theorem un5 : Try.prog.underlying 5 = some (.int .u8) := by kernel_rfl
theorem un50 : Try.prog.underlying 50 = some (.array 8 3) := by kernel_rfl
theorem un54 : Try.prog.underlying 54 = some (.slice 35) := by kernel_rfl
theorem un55 : Try.prog.underlying 55 = some (.slice 57) := by kernel_rfl
theorem un6 : Try.prog.underlying 6 = some (.int .u8) := by kernel_rfl
theorem un61 : Try.prog.underlying 61 = some (.slice 63) := by kernel_rfl
theorem un67 : Try.prog.underlying 67 = some (.map 24 3) := by kernel_rfl
theorem un75 : Try.prog.underlying 75 = some (.slice 79) := by kernel_rfl
theorem un85 : Try.prog.underlying 85 = some (.array 8 3) := by kernel_rfl
theorem un9 : Try.prog.underlying 9 = some .string := by kernel_rfl
theorem un91 : Try.prog.underlying 91 = some (.pointer 85) := by kernel_rfl
end Go.Proofs.Learn
