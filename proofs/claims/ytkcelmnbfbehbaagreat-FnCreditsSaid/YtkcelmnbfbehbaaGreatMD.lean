/- The program's types, as the abstract machine wants them. Conditions: none. -/
import Derived.Test.YtkcelmnbfbehbaaGreatProg
import Derived.Test.YtkcelmnbfbehbaaGreatMC
set_option linter.all false
namespace Go.Proofs.YtkcelmnbfbehbaaGreat
open Go Go.RowKit Am
abbrev Row:=Nat×Ty×Nat×Nat×List Value
def jQ:List Row->Nat->Option (Ty×Nat×Nat×List Value)
 | [],_=>none
 | (s,r)::L,t=>bif Nat.beq t s then some r else jQ L t
def XI (L:List Row) (E E2:List Nat):Cfg where
 eqa t:=E.contains t
 eqs t:=E2.contains t
 ty t:=match jQ L t with | some r=>r.1 | none => .bad
 sz t:=match jQ L t with | some r=>r.2.1 | none=>0
 bytes t:=match jQ L t with | some r=>r.2.2.1 | none=>0
 zero t:=match jQ L t with | some r=>r.2.2.2 | none=>[]
def aC (P:Program) (r:Row):Prop:=r.2.1.is P r.1/\∃ i,P.info? r.1=some i/\i.size=r.2.2.1/\i.bytes=r.2.2.2.1/\∃ z,i.zero=some z/\z.cells.toList=r.2.2.2.2/\z.cells.size=r.2.2.1
def Xy (P:Program):List Row->Prop
 | []=>True
 | r::L=>aC P r/\Xy P L
theorem DR {P:Program}:∀ {L:List Row} {t:Nat} {r:Ty×Nat×Nat×List Value},Xy P L->jQ L t=some r->aC P (t,r)
 | [],_,_,_,h=>by cases h
 | (s,r')::L,t,r,hL,h=>by
  simp only [jQ] at h
  cases e:Nat.beq t s with
  | true =>
   rw [e] at h
   cases h
   rw [Nat.eq_of_beq_eq_true e]
   exact hL.1
  | false =>
   rw [e] at h
   exact DR hL.2 h
def Xx (P:Program):List Nat->Prop
 | []=>True
 | t::E=>P.eqGuardType P.depth t=false/\Xx P E
theorem JD {P:Program}:∀ {E:List Nat},Xx P E->∀ t∈E,P.eqGuardType P.depth t=false
 | [],_,t,ht=>by simp at ht
 | u::E,h,t,ht=>by
  rcases List.mem_cons.1 ht with rfl | ht
  ·exact h.1
  ·exact JD h.2 t ht
def Xz (P:Program) (L:List Row):List Nat->Prop
 | []=>True
 | t :: E => ((match jQ L t with | some r => r.2.1 | none => 0) = 2 /\ P.eqGuardType P.depth t = false /\ P.stoodInHeld t = false /\ ∃ f0 f1 : Field, P.underlying t = some (.struct #[f0, f1]) /\ f0.name ≠ "_" /\ f1.name ≠ "_" /\ f0.offset = 0 /\ f1.offset = 1 /\ P.underlying f0.type = some (.int .i64) /\ P.underlying f1.type = some (.int .i64)) /\ Xz P L E
theorem JF {P:Program} {L:List Row}:∀ {E:List Nat},Xz P L E->∀ t∈E,P.eqGuardType P.depth t=false/\∀ (w:World) (xs ys:List Int),xs.length=(match jQ L t with | some r=>r.2.1 | none=>0)->ys.length=(match jQ L t with | some r=>r.2.1 | none=>0)->(Op.equal t (.agg (xs.map (Value.int .i64)).toArray) (.agg (ys.map (Value.int .i64)).toArray)).run P w = .ok (decide (xs=ys)) w
 | [],_,t,ht=>by simp at ht
 | u::E,h,t,ht=>by
  rcases List.mem_cons.1 ht with rfl | ht
  ·obtain ⟨⟨h0,h1,h2,f0,f1,h3,h4,h5,h6,h7,h8,h9⟩,_⟩:=h
   refine ⟨h1,fun w xs ys la lb =>?_⟩
   rw [h0] at la lb
   exact aeQ h3 h4 h5 h6 h7 h8 h9 h2 w xs ys la lb
  ·exact JF h.2 t ht
theorem XJ {P:Program} {L:List Row} {E E2:List Nat} (h:Xy P L) (hE:Xx P E) (hS:Xz P L E2):jO P (XI L E E2):=⟨fun t=>by
  show Ty.is P t (match jQ L t with | some r=>r.1 | none => .bad)
  cases e:jQ L t with
  | none=>trivial
  | some r=>exact (DR h e).1,
 fun t hz=>by
  have hz':(match jQ L t with | some r=>r.2.1 | none=>0)≠0:=hz
  show ∃ i,P.info? t=some i/\i.size=(match jQ L t with | some r=>r.2.1 | none=>0)/\i.bytes=(match jQ L t with | some r=>r.2.2.1 | none=>0)/\∃ z,i.zero=some z/\z.cells.toList=(match jQ L t with | some r=>r.2.2.2 | none=>[])/\z.cells.size=(match jQ L t with | some r=>r.2.1 | none=>0)
  cases e:jQ L t with
  | none=>rw [e] at hz';exact (hz' rfl).elim
  | some r=>exact (DR h e).2,
 fun t ht=>JD hE t (by simpa [XI] using ht),fun t ht=>JF hS t (by simpa [XI] using ht)⟩
theorem ak {P:Program} {t sz by_:Nat} {z:Value} {l:List Value} (h:(P.info? t).map (fun i=>(i.size,i.bytes,i.zero))=some (sz,by_,some z)) (hl:z.cells.toList=l) (hs:z.cells.size=sz) :
  ∃ i,P.info? t=some i/\i.size=sz/\i.bytes=by_/\∃ z,i.zero=some z/\z.cells.toList=l/\z.cells.size=sz:=by
 simp only [Option.map_eq_some_iff,Prod.mk.injEq] at h
 obtain ⟨i,h1,h2,h3,h4⟩:=h
 exact ⟨i,h1,h2,h3,z,h4,hl,hs⟩
def Q7 (P:Program) (t:Nat) (fs:List (Nat×Nat)):Bool:=match P.underlying t with
 | some (.struct F)=>(F.toList.map fun f=>(f.offset,f.type)) == fs && fs.all fun p=>match P.info? p.2 with | some j => !(j.size == 0) | none=>false
 | _=>false
theorem aK {P:Program} {t:Nat} {fs:List (Nat×Nat)} (h:Q7 P t fs=true):Ty.is P t (.struct fs):=by
 unfold Q7 at h
 split at h
 ·rename_i F hF
  simp only [Bool.and_eq_true,beq_iff_eq,List.all_eq_true] at h
  obtain ⟨h1,h2⟩:=h
  refine ⟨F,hF,by rw [← h1];simp,fun i off t' hi =>?_⟩
  have h3:=h2 _ (List.mem_of_getElem? hi)
  rw [← h1,List.getElem?_map] at hi
  simp only [Option.map_eq_some_iff,Array.getElem?_toList,Prod.mk.injEq] at hi
  obtain ⟨f,h4,h5,h6⟩:=hi
  refine ⟨f,h4,h5,h6,?_⟩
  split at h3
  ·rename_i j hj
   exact ⟨j,hj,by simpa using h3⟩
  ·cases h3
 ·cases h
def Wx (P:Program) (t:Nat):Bool:=match P.underlying t with
 | some (.struct _)=>false
 | some (.array _ _)=>false
 | some _=>true
 | none=>false
theorem au {P:Program} {t:Nat} (h:Wx P t=true):Ty.is P t .plain:=by
 unfold Wx at h
 split at h
 ·cases h
 ·cases h
 ·rename_i d h1 h2 hd
  exact ⟨d,hd,fun F e=>h1 F e,fun n e' e=>h2 n e' e⟩
 ·cases h
theorem Vh {P:Program} {t:Nat} (h:P.underlying t=some (.int .i64)):Ty.is P t .int:=h
theorem XG {P:Program} {t:Nat} (h:P.underlying t=some .bool):Ty.is P t .bool:=h
theorem eH {P:Program} {t e:Nat} (h:P.underlying t=some (.slice e)):Ty.is P t (.slice e):=h
theorem Zq {P:Program} {t n e:Nat} (h:P.underlying t=some (.array n e)):Ty.is P t (.arr n e):=h
def rows:List Row:=[
 (1,.plain,1,8,[(.nilFunc)]),
 (2,.int,1,8,[(.int .i64 0)]),
 (3,.int,1,8,[(.int .i64 0)]),
 (4,.bool,1,1,[(.bool false)]),
 (5,.plain,1,1,[(.int .u8 0)]),
 (6,.plain,1,1,[(.int .u8 0)]),
 (7,(.struct [(0,2),(1,3),(2,4),(3,6)]),4,24,[(.int .i64 0),(.int .i64 0),(.bool false),(.int .u8 0)]),
 (8,(.struct [(0,2),(1,3),(2,4),(3,6)]),4,24,[(.int .i64 0),(.int .i64 0),(.bool false),(.int .u8 0)]),
 (9,.plain,1,16,[(.string ⟨#[]⟩)]),
 (10,.plain,1,16,[(.string ⟨#[]⟩)]),
 (11,.plain,1,16,[(.string ⟨#[]⟩)]),
 (12,.plain,1,8,[(.int .u64 0)]),
 (13,(.struct [(0,9),(1,12)]),2,24,[(.string ⟨#[]⟩),(.int .u64 0)]),
 (14,(.struct [(0,9),(1,12)]),2,24,[(.string ⟨#[]⟩),(.int .u64 0)]),
 (15,.plain,1,8,[(.pointer none)]),
 (16,.plain,1,8,[(.pointer none)]),
 (17,.plain,1,8,[(.pointer none)]),
 (18,(.struct [(0,17)]),1,8,[(.pointer none)]),
 (19,(.struct [(0,17)]),1,8,[(.pointer none)]),
 (21,.plain,1,4,[(.int .i32 0)]),
 (22,(.slice 5),1,24,[(.slice none 0 0)]),
 (23,.plain,1,8,[(.nilFunc)]),
 (24,(.slice 29),1,24,[(.slice none 0 0)]),
 (25,(.struct [(0,24),(1,24)]),2,48,[(.slice none 0 0),(.slice none 0 0)]),
 (26,(.struct [(0,24),(1,24)]),2,48,[(.slice none 0 0),(.slice none 0 0)]),
 (27,(.struct [(0,3),(1,3)]),2,16,[(.int .i64 0),(.int .i64 0)]),
 (28,(.struct [(0,3),(1,3)]),2,16,[(.int .i64 0),(.int .i64 0)]),
 (29,(.slice 3),1,24,[(.slice none 0 0)]),
 (31,.plain,1,8,[(.nilFunc)]),
 (33,.plain,1,8,[(.nilFunc)]),
 (35,.plain,1,8,[(.nilFunc)]),
 (36,.plain,1,8,[(.nilFunc)]),
 (38,.plain,1,8,[(.nilFunc)]),
 (39,.plain,1,8,[(.nilFunc)]),
 (40,.plain,1,8,[(.nilFunc)]),
 (42,.plain,1,8,[(.nilFunc)]),
 (44,.plain,1,8,[(.nilFunc)]),
 (46,.plain,1,8,[(.nilFunc)]),
 (47,.plain,1,8,[(.nilFunc)]),
 (49,.plain,1,8,[(.nilFunc)]),
 (51,.plain,1,8,[(.nilFunc)]),
 (53,.plain,1,8,[(.nilFunc)]),
 (54,.plain,1,8,[(.nilFunc)]),
 (55,.plain,1,8,[(.nilFunc)]),
 (56,.plain,1,8,[(.nilFunc)]),
 (57,(.slice 145),1,24,[(.slice none 0 0)]),
 (59,.plain,1,8,[(.nilFunc)]),
 (60,.plain,1,8,[(.pointer none)]),
 (61,.plain,1,8,[(.int .u64 0)]),
 (62,(.struct [(0,22),(1,3),(2,61)]),3,40,[(.slice none 0 0),(.int .i64 0),(.int .u64 0)]),
 (63,(.struct [(0,22),(1,3),(2,61)]),3,40,[(.slice none 0 0),(.int .i64 0),(.int .u64 0)]),
 (64,.plain,1,8,[(.nilFunc)]),
 (65,.plain,1,8,[(.nilFunc)]),
 (66,.plain,1,8,[(.nilFunc)]),
 (67,.plain,1,8,[(.nilFunc)]),
 (68,.plain,1,8,[(.pointer none)]),
 (70,.plain,1,8,[(.nilFunc)]),
 (71,.plain,1,8,[(.nilFunc)]),
 (72,.plain,1,8,[(.nilFunc)]),
 (73,(.slice 91),1,24,[(.slice none 0 0)]),
 (74,(.struct [(0,57),(1,73),(2,4)]),3,56,[(.slice none 0 0),(.slice none 0 0),(.bool false)]),
 (75,(.struct [(0,57),(1,73),(2,4)]),3,56,[(.slice none 0 0),(.slice none 0 0),(.bool false)]),
 (77,.plain,1,8,[(.nilFunc)]),
 (78,.plain,1,8,[(.nilFunc)]),
 (79,(.slice 82),1,24,[(.slice none 0 0)]),
 (80,(.struct [(0,57),(1,79)]),2,48,[(.slice none 0 0),(.slice none 0 0)]),
 (81,(.struct [(0,57),(1,79)]),2,48,[(.slice none 0 0),(.slice none 0 0)]),
 (82,(.slice 83),1,24,[(.slice none 0 0)]),
 (83,(.slice 88),1,24,[(.slice none 0 0)]),
 (84,.plain,1,8,[(.nilFunc)]),
 (85,(.struct [(0,3),(1,3),(2,3),(3,3)]),4,32,[(.int .i64 0),(.int .i64 0),(.int .i64 0),(.int .i64 0)]),
 (86,(.struct [(0,3),(1,3),(2,3),(3,3)]),4,32,[(.int .i64 0),(.int .i64 0),(.int .i64 0),(.int .i64 0)]),
 (87,(.struct [(0,86),(4,3),(5,3)]),6,48,[(.int .i64 0),(.int .i64 0),(.int .i64 0),(.int .i64 0),(.int .i64 0),(.int .i64 0)]),
 (88,(.struct [(0,86),(4,3),(5,3)]),6,48,[(.int .i64 0),(.int .i64 0),(.int .i64 0),(.int .i64 0),(.int .i64 0),(.int .i64 0)]),
 (89,.plain,1,8,[(.nilFunc)]),
 (90,.plain,1,8,[(.nilFunc)]),
 (91,(.slice 152),1,24,[(.slice none 0 0)]),
 (92,.plain,1,8,[(.nilFunc)]),
 (93,.plain,1,8,[(.nilFunc)]),
 (94,.plain,1,8,[(.nilFunc)]),
 (95,(.struct [(0,3),(1,3)]),2,16,[(.int .i64 0),(.int .i64 0)]),
 (96,(.struct [(0,3),(1,3)]),2,16,[(.int .i64 0),(.int .i64 0)]),
 (97,.plain,1,8,[(.nilFunc)]),
 (98,.plain,1,8,[(.nilFunc)]),
 (99,.plain,1,8,[(.nilFunc)]),
 (100,.plain,1,8,[(.nilFunc)]),
 (101,.plain,1,8,[(.nilFunc)]),
 (102,.plain,1,8,[(.nilFunc)]),
 (103,.plain,1,8,[(.nilFunc)]),
 (104,.plain,1,8,[(.nilFunc)]),
 (105,.plain,1,8,[(.nilFunc)]),
 (107,.plain,1,8,[(.nilFunc)]),
 (108,.plain,1,8,[(.nilFunc)]),
 (109,.plain,1,8,[(.nilFunc)]),
 (110,.plain,1,8,[(.nilFunc)]),
 (111,.plain,1,8,[(.nilFunc)]),
 (112,.plain,1,8,[(.nilFunc)]),
 (113,(.struct [(0,24)]),1,24,[(.slice none 0 0)]),
 (114,(.struct [(0,24)]),1,24,[(.slice none 0 0)]),
 (115,.plain,1,8,[(.nilFunc)]),
 (116,.plain,1,8,[(.nilFunc)]),
 (117,.plain,1,8,[(.nilFunc)]),
 (118,.plain,1,8,[(.nilFunc)]),
 (119,.plain,1,8,[(.nilFunc)]),
 (120,.plain,1,8,[(.nilFunc)]),
 (121,.plain,1,8,[(.pointer none)]),
 (123,.plain,1,8,[(.nilFunc)]),
 (124,.plain,1,8,[(.nilFunc)]),
 (125,.plain,1,8,[(.nilFunc)]),
 (126,.plain,1,8,[(.nilFunc)]),
 (127,.plain,1,8,[(.nilFunc)]),
 (128,.plain,1,8,[(.nilFunc)]),
 (129,(.slice 24),1,24,[(.slice none 0 0)]),
 (130,.plain,1,8,[(.nilFunc)]),
 (131,(.slice 179),1,24,[(.slice none 0 0)]),
 (132,(.struct [(0,57),(1,131),(2,4)]),3,56,[(.slice none 0 0),(.slice none 0 0),(.bool false)]),
 (133,(.struct [(0,57),(1,131),(2,4)]),3,56,[(.slice none 0 0),(.slice none 0 0),(.bool false)]),
 (134,.plain,1,8,[(.nilFunc)]),
 (135,.plain,1,8,[(.nilFunc)]),
 (136,.plain,1,8,[(.nilFunc)]),
 (137,.plain,1,8,[(.nilFunc)]),
 (138,.plain,1,8,[(.nilFunc)]),
 (139,.plain,1,8,[(.nilFunc)]),
 (140,.plain,1,8,[(.nilFunc)]),
 (141,.plain,1,8,[(.nilFunc)]),
 (142,.plain,1,8,[(.nilFunc)]),
 (144,.plain,1,8,[(.nilFunc)]),
 (145,(.arr 2 3),2,16,[(.int .i64 0),(.int .i64 0)]),
 (146,.plain,1,8,[(.nilFunc)]),
 (147,.plain,1,8,[(.nilFunc)]),
 (148,.plain,1,8,[(.nilFunc)]),
 (149,.plain,1,8,[(.nilFunc)]),
 (150,.plain,1,8,[(.nilFunc)]),
 (151,.plain,1,8,[(.nilFunc)]),
 (152,(.slice 154),1,24,[(.slice none 0 0)]),
 (153,(.struct [(0,3),(1,3),(2,3),(3,3)]),4,32,[(.int .i64 0),(.int .i64 0),(.int .i64 0),(.int .i64 0)]),
 (154,(.struct [(0,3),(1,3),(2,3),(3,3)]),4,32,[(.int .i64 0),(.int .i64 0),(.int .i64 0),(.int .i64 0)]),
 (155,.plain,1,8,[(.nilFunc)]),
 (156,.plain,1,8,[(.pointer none)]),
 (157,.plain,1,8,[(.nilFunc)]),
 (158,.plain,1,8,[(.nilFunc)]),
 (159,.plain,1,8,[(.nilFunc)]),
 (160,(.slice 192),1,24,[(.slice none 0 0)]),
 (161,.plain,1,8,[(.nilFunc)]),
 (162,.plain,1,8,[(.nilFunc)]),
 (163,.plain,1,8,[(.nilFunc)]),
 (164,.plain,1,8,[(.nilFunc)]),
 (165,.plain,1,8,[(.nilFunc)]),
 (166,.plain,1,8,[(.nilFunc)]),
 (167,.plain,1,8,[(.nilFunc)]),
 (168,.plain,1,8,[(.nilFunc)]),
 (169,.plain,1,8,[(.nilFunc)]),
 (170,(.slice 86),1,24,[(.slice none 0 0)]),
 (171,(.struct [(0,57),(1,170),(2,3)]),3,56,[(.slice none 0 0),(.slice none 0 0),(.int .i64 0)]),
 (172,(.struct [(0,57),(1,170),(2,3)]),3,56,[(.slice none 0 0),(.slice none 0 0),(.int .i64 0)]),
 (174,.plain,1,8,[(.nilFunc)]),
 (175,.plain,1,8,[(.nilFunc)]),
 (176,(.struct [(0,24),(1,24),(2,24),(3,4)]),4,80,[(.slice none 0 0),(.slice none 0 0),(.slice none 0 0),(.bool false)]),
 (177,(.struct [(0,24),(1,24),(2,24),(3,4)]),4,80,[(.slice none 0 0),(.slice none 0 0),(.slice none 0 0),(.bool false)]),
 (178,.plain,1,8,[(.nilFunc)]),
 (179,(.slice 181),1,24,[(.slice none 0 0)]),
 (180,(.struct [(0,3),(1,3),(2,3)]),3,24,[(.int .i64 0),(.int .i64 0),(.int .i64 0)]),
 (181,(.struct [(0,3),(1,3),(2,3)]),3,24,[(.int .i64 0),(.int .i64 0),(.int .i64 0)]),
 (182,(.struct [(0,29),(1,29),(2,3)]),3,56,[(.slice none 0 0),(.slice none 0 0),(.int .i64 0)]),
 (183,(.struct [(0,29),(1,29),(2,3)]),3,56,[(.slice none 0 0),(.slice none 0 0),(.int .i64 0)]),
 (184,.plain,1,8,[(.nilFunc)]),
 (186,.plain,1,8,[(.nilFunc)]),
 (187,.plain,1,8,[(.nilFunc)]),
 (188,.plain,1,8,[(.nilFunc)]),
 (189,.plain,1,8,[(.nilFunc)]),
 (190,.plain,1,8,[(.nilFunc)]),
 (191,.plain,1,8,[(.nilFunc)]),
 (192,(.slice 4),1,24,[(.slice none 0 0)]),
 (193,(.slice 197),1,24,[(.slice none 0 0)]),
 (194,(.struct [(0,192),(1,193)]),2,48,[(.slice none 0 0),(.slice none 0 0)]),
 (195,(.struct [(0,192),(1,193)]),2,48,[(.slice none 0 0),(.slice none 0 0)]),
 (196,.plain,1,8,[(.nilFunc)]),
 (197,(.slice 199),1,24,[(.slice none 0 0)]),
 (198,(.struct [(0,3),(1,3)]),2,16,[(.int .i64 0),(.int .i64 0)]),
 (199,(.struct [(0,3),(1,3)]),2,16,[(.int .i64 0),(.int .i64 0)]),
 (200,.plain,1,8,[(.nilFunc)]),
 (201,.plain,1,8,[(.nilFunc)]),
 (202,.plain,1,8,[(.nilFunc)]),
 (203,.plain,1,8,[(.nilFunc)]),
 (204,.plain,1,8,[(.nilFunc)]),
 (205,.plain,1,8,[(.nilFunc)]),
 (206,.plain,1,8,[(.nilFunc)]),
 (207,.plain,1,8,[(.nilFunc)]),
 (208,.plain,1,8,[(.nilFunc)]),
 (209,.plain,1,8,[(.nilFunc)]),
 (210,.plain,1,8,[(.nilFunc)]),
 (211,.plain,1,8,[(.nilFunc)]),
 (212,.plain,1,8,[(.nilFunc)]),
 (213,.plain,1,8,[(.nilFunc)]),
 (214,.plain,1,8,[(.nilFunc)]),
 (215,.plain,1,8,[(.nilFunc)]),
 (216,.plain,1,8,[(.int .u64 0)]),
 (218,.plain,1,8,[(.nilFunc)]),
 (219,.plain,1,8,[(.nilFunc)]),
 (220,(.slice 222),1,24,[(.slice none 0 0)]),
 (221,(.struct [(0,4),(1,3),(2,3)]),3,24,[(.bool false),(.int .i64 0),(.int .i64 0)]),
 (222,(.struct [(0,4),(1,3),(2,3)]),3,24,[(.bool false),(.int .i64 0),(.int .i64 0)]),
 (223,.plain,1,8,[(.nilFunc)]),
 (224,.plain,1,4,[(.int .u32 0)]),
 (226,.plain,1,8,[(.nilFunc)]),
 (228,.plain,1,8,[(.nilFunc)]),
 (229,.plain,1,8,[(.nilFunc)]),
 (230,.plain,1,8,[(.nilFunc)]),
 (231,(.struct [(0,17),(1,17),(2,17),(3,9)]),4,40,[(.pointer none),(.pointer none),(.pointer none),(.string ⟨#[]⟩)]),
 (232,(.struct [(0,17),(1,17),(2,17),(3,9)]),4,40,[(.pointer none),(.pointer none),(.pointer none),(.string ⟨#[]⟩)]),
 (236,.plain,1,1,[(.int .u8 0)]),
 (237,.plain,1,1,[(.int .u8 0)]),
 (238,.plain,1,8,[(.nilFunc)]),
 (239,.plain,1,8,[(.pointer none)]),
 (240,.plain,1,4,[(.int .i32 0)]),
 (241,.plain,1,4,[(.int .i32 0)]),
 (242,(.struct [(0,12),(1,12),(2,224),(3,236),(4,5),(5,5),(6,237),(7,238),(8,239),(9,240),(10,241)]),11,48,[(.int .u64 0),(.int .u64 0),(.int .u32 0),(.int .u8 0),(.int .u8 0),(.int .u8 0),(.int .u8 0),(.nilFunc),(.pointer none),(.int .i32 0),(.int .i32 0)]),
 (243,(.struct [(0,12),(1,12),(2,224),(3,236),(4,5),(5,5),(6,237),(7,238),(8,239),(9,240),(10,241)]),11,48,[(.int .u64 0),(.int .u64 0),(.int .u32 0),(.int .u8 0),(.int .u8 0),(.int .u8 0),(.int .u8 0),(.nilFunc),(.pointer none),(.int .i32 0),(.int .i32 0)])]
theorem aeU:aC Tryz.prog (1,.plain,1,8,[(.nilFunc)]):=⟨au (by kernel_rfl),ak (z:=(.nilFunc)) (by kernel_rfl) rfl rfl⟩
theorem aeV:aC Tryz.prog (2,.int,1,8,[(.int .i64 0)]):=⟨Vh (by kernel_rfl),ak (z:=(.int .i64 0)) (by kernel_rfl) rfl rfl⟩
theorem row3:aC Tryz.prog (3,.int,1,8,[(.int .i64 0)]):=⟨Vh (by kernel_rfl),ak (z:=(.int .i64 0)) (by kernel_rfl) rfl rfl⟩
theorem row4:aC Tryz.prog (4,.bool,1,1,[(.bool false)]):=⟨XG (by kernel_rfl),ak (z:=(.bool false)) (by kernel_rfl) rfl rfl⟩
theorem aeW:aC Tryz.prog (5,.plain,1,1,[(.int .u8 0)]):=⟨au (by kernel_rfl),ak (z:=(.int .u8 0)) (by kernel_rfl) rfl rfl⟩
theorem aeX:aC Tryz.prog (6,.plain,1,1,[(.int .u8 0)]):=⟨au (by kernel_rfl),ak (z:=(.int .u8 0)) (by kernel_rfl) rfl rfl⟩
theorem aeY:aC Tryz.prog (7,(.struct [(0,2),(1,3),(2,4),(3,6)]),4,24,[(.int .i64 0),(.int .i64 0),(.bool false),(.int .u8 0)]):=⟨aK (by kernel_rfl),ak (z:=(.agg #[(.int .i64 0),(.int .i64 0),(.bool false),(.int .u8 0)])) (by kernel_rfl) rfl rfl⟩
theorem aeZ:aC Tryz.prog (8,(.struct [(0,2),(1,3),(2,4),(3,6)]),4,24,[(.int .i64 0),(.int .i64 0),(.bool false),(.int .u8 0)]):=⟨aK (by kernel_rfl),ak (z:=(.agg #[(.int .i64 0),(.int .i64 0),(.bool false),(.int .u8 0)])) (by kernel_rfl) rfl rfl⟩
theorem ae0:aC Tryz.prog (9,.plain,1,16,[(.string ⟨#[]⟩)]):=⟨au (by kernel_rfl),ak (z:=(.string ⟨#[]⟩)) (by kernel_rfl) rfl rfl⟩
theorem adh:aC Tryz.prog (10,.plain,1,16,[(.string ⟨#[]⟩)]):=⟨au (by kernel_rfl),ak (z:=(.string ⟨#[]⟩)) (by kernel_rfl) rfl rfl⟩
theorem adi:aC Tryz.prog (11,.plain,1,16,[(.string ⟨#[]⟩)]):=⟨au (by kernel_rfl),ak (z:=(.string ⟨#[]⟩)) (by kernel_rfl) rfl rfl⟩
theorem adk:aC Tryz.prog (12,.plain,1,8,[(.int .u64 0)]):=⟨au (by kernel_rfl),ak (z:=(.int .u64 0)) (by kernel_rfl) rfl rfl⟩
theorem adl:aC Tryz.prog (13,(.struct [(0,9),(1,12)]),2,24,[(.string ⟨#[]⟩),(.int .u64 0)]):=⟨aK (by kernel_rfl),ak (z:=(.agg #[(.string ⟨#[]⟩),(.int .u64 0)])) (by kernel_rfl) rfl rfl⟩
theorem adn:aC Tryz.prog (14,(.struct [(0,9),(1,12)]),2,24,[(.string ⟨#[]⟩),(.int .u64 0)]):=⟨aK (by kernel_rfl),ak (z:=(.agg #[(.string ⟨#[]⟩),(.int .u64 0)])) (by kernel_rfl) rfl rfl⟩
theorem ado:aC Tryz.prog (15,.plain,1,8,[(.pointer none)]):=⟨au (by kernel_rfl),ak (z:=(.pointer none)) (by kernel_rfl) rfl rfl⟩
theorem adp:aC Tryz.prog (16,.plain,1,8,[(.pointer none)]):=⟨au (by kernel_rfl),ak (z:=(.pointer none)) (by kernel_rfl) rfl rfl⟩
theorem adq:aC Tryz.prog (17,.plain,1,8,[(.pointer none)]):=⟨au (by kernel_rfl),ak (z:=(.pointer none)) (by kernel_rfl) rfl rfl⟩
theorem ads:aC Tryz.prog (18,(.struct [(0,17)]),1,8,[(.pointer none)]):=⟨aK (by kernel_rfl),ak (z:=(.agg #[(.pointer none)])) (by kernel_rfl) rfl rfl⟩
theorem adt:aC Tryz.prog (19,(.struct [(0,17)]),1,8,[(.pointer none)]):=⟨aK (by kernel_rfl),ak (z:=(.agg #[(.pointer none)])) (by kernel_rfl) rfl rfl⟩
theorem adu:aC Tryz.prog (21,.plain,1,4,[(.int .i32 0)]):=⟨au (by kernel_rfl),ak (z:=(.int .i32 0)) (by kernel_rfl) rfl rfl⟩
theorem row22:aC Tryz.prog (22,(.slice 5),1,24,[(.slice none 0 0)]):=⟨eH (by kernel_rfl),ak (z:=(.slice none 0 0)) (by kernel_rfl) rfl rfl⟩
theorem row23:aC Tryz.prog (23,.plain,1,8,[(.nilFunc)]):=⟨au (by kernel_rfl),ak (z:=(.nilFunc)) (by kernel_rfl) rfl rfl⟩
theorem row24:aC Tryz.prog (24,(.slice 29),1,24,[(.slice none 0 0)]):=⟨eH (by kernel_rfl),ak (z:=(.slice none 0 0)) (by kernel_rfl) rfl rfl⟩
theorem row25:aC Tryz.prog (25,(.struct [(0,24),(1,24)]),2,48,[(.slice none 0 0),(.slice none 0 0)]):=⟨aK (by kernel_rfl),ak (z:=(.agg #[(.slice none 0 0),(.slice none 0 0)])) (by kernel_rfl) rfl rfl⟩
theorem row26:aC Tryz.prog (26,(.struct [(0,24),(1,24)]),2,48,[(.slice none 0 0),(.slice none 0 0)]):=⟨aK (by kernel_rfl),ak (z:=(.agg #[(.slice none 0 0),(.slice none 0 0)])) (by kernel_rfl) rfl rfl⟩
theorem row27:aC Tryz.prog (27,(.struct [(0,3),(1,3)]),2,16,[(.int .i64 0),(.int .i64 0)]):=⟨aK (by kernel_rfl),ak (z:=(.agg #[(.int .i64 0),(.int .i64 0)])) (by kernel_rfl) rfl rfl⟩
theorem row28:aC Tryz.prog (28,(.struct [(0,3),(1,3)]),2,16,[(.int .i64 0),(.int .i64 0)]):=⟨aK (by kernel_rfl),ak (z:=(.agg #[(.int .i64 0),(.int .i64 0)])) (by kernel_rfl) rfl rfl⟩
theorem adw:aC Tryz.prog (29,(.slice 3),1,24,[(.slice none 0 0)]):=⟨eH (by kernel_rfl),ak (z:=(.slice none 0 0)) (by kernel_rfl) rfl rfl⟩
theorem adx:aC Tryz.prog (31,.plain,1,8,[(.nilFunc)]):=⟨au (by kernel_rfl),ak (z:=(.nilFunc)) (by kernel_rfl) rfl rfl⟩
theorem ady:aC Tryz.prog (33,.plain,1,8,[(.nilFunc)]):=⟨au (by kernel_rfl),ak (z:=(.nilFunc)) (by kernel_rfl) rfl rfl⟩
theorem row35:aC Tryz.prog (35,.plain,1,8,[(.nilFunc)]):=⟨au (by kernel_rfl),ak (z:=(.nilFunc)) (by kernel_rfl) rfl rfl⟩
theorem adz:aC Tryz.prog (36,.plain,1,8,[(.nilFunc)]):=⟨au (by kernel_rfl),ak (z:=(.nilFunc)) (by kernel_rfl) rfl rfl⟩
theorem row38:aC Tryz.prog (38,.plain,1,8,[(.nilFunc)]):=⟨au (by kernel_rfl),ak (z:=(.nilFunc)) (by kernel_rfl) rfl rfl⟩
theorem row39:aC Tryz.prog (39,.plain,1,8,[(.nilFunc)]):=⟨au (by kernel_rfl),ak (z:=(.nilFunc)) (by kernel_rfl) rfl rfl⟩
theorem adA:aC Tryz.prog (40,.plain,1,8,[(.nilFunc)]):=⟨au (by kernel_rfl),ak (z:=(.nilFunc)) (by kernel_rfl) rfl rfl⟩
theorem adB:aC Tryz.prog (42,.plain,1,8,[(.nilFunc)]):=⟨au (by kernel_rfl),ak (z:=(.nilFunc)) (by kernel_rfl) rfl rfl⟩
theorem adC:aC Tryz.prog (44,.plain,1,8,[(.nilFunc)]):=⟨au (by kernel_rfl),ak (z:=(.nilFunc)) (by kernel_rfl) rfl rfl⟩
theorem adD:aC Tryz.prog (46,.plain,1,8,[(.nilFunc)]):=⟨au (by kernel_rfl),ak (z:=(.nilFunc)) (by kernel_rfl) rfl rfl⟩
theorem row47:aC Tryz.prog (47,.plain,1,8,[(.nilFunc)]):=⟨au (by kernel_rfl),ak (z:=(.nilFunc)) (by kernel_rfl) rfl rfl⟩
theorem adE:aC Tryz.prog (49,.plain,1,8,[(.nilFunc)]):=⟨au (by kernel_rfl),ak (z:=(.nilFunc)) (by kernel_rfl) rfl rfl⟩
theorem adF:aC Tryz.prog (51,.plain,1,8,[(.nilFunc)]):=⟨au (by kernel_rfl),ak (z:=(.nilFunc)) (by kernel_rfl) rfl rfl⟩
theorem adG:aC Tryz.prog (53,.plain,1,8,[(.nilFunc)]):=⟨au (by kernel_rfl),ak (z:=(.nilFunc)) (by kernel_rfl) rfl rfl⟩
theorem adH:aC Tryz.prog (54,.plain,1,8,[(.nilFunc)]):=⟨au (by kernel_rfl),ak (z:=(.nilFunc)) (by kernel_rfl) rfl rfl⟩
theorem adI:aC Tryz.prog (55,.plain,1,8,[(.nilFunc)]):=⟨au (by kernel_rfl),ak (z:=(.nilFunc)) (by kernel_rfl) rfl rfl⟩
theorem adJ:aC Tryz.prog (56,.plain,1,8,[(.nilFunc)]):=⟨au (by kernel_rfl),ak (z:=(.nilFunc)) (by kernel_rfl) rfl rfl⟩
theorem adK:aC Tryz.prog (57,(.slice 145),1,24,[(.slice none 0 0)]):=⟨eH (by kernel_rfl),ak (z:=(.slice none 0 0)) (by kernel_rfl) rfl rfl⟩
theorem adL:aC Tryz.prog (59,.plain,1,8,[(.nilFunc)]):=⟨au (by kernel_rfl),ak (z:=(.nilFunc)) (by kernel_rfl) rfl rfl⟩
theorem adM:aC Tryz.prog (60,.plain,1,8,[(.pointer none)]):=⟨au (by kernel_rfl),ak (z:=(.pointer none)) (by kernel_rfl) rfl rfl⟩
theorem adN:aC Tryz.prog (61,.plain,1,8,[(.int .u64 0)]):=⟨au (by kernel_rfl),ak (z:=(.int .u64 0)) (by kernel_rfl) rfl rfl⟩
theorem adO:aC Tryz.prog (62,(.struct [(0,22),(1,3),(2,61)]),3,40,[(.slice none 0 0),(.int .i64 0),(.int .u64 0)]):=⟨aK (by kernel_rfl),ak (z:=(.agg #[(.slice none 0 0),(.int .i64 0),(.int .u64 0)])) (by kernel_rfl) rfl rfl⟩
theorem adP:aC Tryz.prog (63,(.struct [(0,22),(1,3),(2,61)]),3,40,[(.slice none 0 0),(.int .i64 0),(.int .u64 0)]):=⟨aK (by kernel_rfl),ak (z:=(.agg #[(.slice none 0 0),(.int .i64 0),(.int .u64 0)])) (by kernel_rfl) rfl rfl⟩
theorem adQ:aC Tryz.prog (64,.plain,1,8,[(.nilFunc)]):=⟨au (by kernel_rfl),ak (z:=(.nilFunc)) (by kernel_rfl) rfl rfl⟩
theorem adR:aC Tryz.prog (65,.plain,1,8,[(.nilFunc)]):=⟨au (by kernel_rfl),ak (z:=(.nilFunc)) (by kernel_rfl) rfl rfl⟩
theorem adT:aC Tryz.prog (66,.plain,1,8,[(.nilFunc)]):=⟨au (by kernel_rfl),ak (z:=(.nilFunc)) (by kernel_rfl) rfl rfl⟩
theorem adU:aC Tryz.prog (67,.plain,1,8,[(.nilFunc)]):=⟨au (by kernel_rfl),ak (z:=(.nilFunc)) (by kernel_rfl) rfl rfl⟩
theorem adV:aC Tryz.prog (68,.plain,1,8,[(.pointer none)]):=⟨au (by kernel_rfl),ak (z:=(.pointer none)) (by kernel_rfl) rfl rfl⟩
theorem adW:aC Tryz.prog (70,.plain,1,8,[(.nilFunc)]):=⟨au (by kernel_rfl),ak (z:=(.nilFunc)) (by kernel_rfl) rfl rfl⟩
theorem adX:aC Tryz.prog (71,.plain,1,8,[(.nilFunc)]):=⟨au (by kernel_rfl),ak (z:=(.nilFunc)) (by kernel_rfl) rfl rfl⟩
theorem adY:aC Tryz.prog (72,.plain,1,8,[(.nilFunc)]):=⟨au (by kernel_rfl),ak (z:=(.nilFunc)) (by kernel_rfl) rfl rfl⟩
theorem adZ:aC Tryz.prog (73,(.slice 91),1,24,[(.slice none 0 0)]):=⟨eH (by kernel_rfl),ak (z:=(.slice none 0 0)) (by kernel_rfl) rfl rfl⟩
theorem ad1:aC Tryz.prog (74,(.struct [(0,57),(1,73),(2,4)]),3,56,[(.slice none 0 0),(.slice none 0 0),(.bool false)]):=⟨aK (by kernel_rfl),ak (z:=(.agg #[(.slice none 0 0),(.slice none 0 0),(.bool false)])) (by kernel_rfl) rfl rfl⟩
theorem ad2:aC Tryz.prog (75,(.struct [(0,57),(1,73),(2,4)]),3,56,[(.slice none 0 0),(.slice none 0 0),(.bool false)]):=⟨aK (by kernel_rfl),ak (z:=(.agg #[(.slice none 0 0),(.slice none 0 0),(.bool false)])) (by kernel_rfl) rfl rfl⟩
theorem ad3:aC Tryz.prog (77,.plain,1,8,[(.nilFunc)]):=⟨au (by kernel_rfl),ak (z:=(.nilFunc)) (by kernel_rfl) rfl rfl⟩
theorem ad4:aC Tryz.prog (78,.plain,1,8,[(.nilFunc)]):=⟨au (by kernel_rfl),ak (z:=(.nilFunc)) (by kernel_rfl) rfl rfl⟩
theorem ad5:aC Tryz.prog (79,(.slice 82),1,24,[(.slice none 0 0)]):=⟨eH (by kernel_rfl),ak (z:=(.slice none 0 0)) (by kernel_rfl) rfl rfl⟩
theorem ad6:aC Tryz.prog (80,(.struct [(0,57),(1,79)]),2,48,[(.slice none 0 0),(.slice none 0 0)]):=⟨aK (by kernel_rfl),ak (z:=(.agg #[(.slice none 0 0),(.slice none 0 0)])) (by kernel_rfl) rfl rfl⟩
theorem ad7:aC Tryz.prog (81,(.struct [(0,57),(1,79)]),2,48,[(.slice none 0 0),(.slice none 0 0)]):=⟨aK (by kernel_rfl),ak (z:=(.agg #[(.slice none 0 0),(.slice none 0 0)])) (by kernel_rfl) rfl rfl⟩
theorem ad8:aC Tryz.prog (82,(.slice 83),1,24,[(.slice none 0 0)]):=⟨eH (by kernel_rfl),ak (z:=(.slice none 0 0)) (by kernel_rfl) rfl rfl⟩
theorem ad9:aC Tryz.prog (83,(.slice 88),1,24,[(.slice none 0 0)]):=⟨eH (by kernel_rfl),ak (z:=(.slice none 0 0)) (by kernel_rfl) rfl rfl⟩
theorem aea:aC Tryz.prog (84,.plain,1,8,[(.nilFunc)]):=⟨au (by kernel_rfl),ak (z:=(.nilFunc)) (by kernel_rfl) rfl rfl⟩
theorem aeb:aC Tryz.prog (85,(.struct [(0,3),(1,3),(2,3),(3,3)]),4,32,[(.int .i64 0),(.int .i64 0),(.int .i64 0),(.int .i64 0)]):=⟨aK (by kernel_rfl),ak (z:=(.agg #[(.int .i64 0),(.int .i64 0),(.int .i64 0),(.int .i64 0)])) (by kernel_rfl) rfl rfl⟩
theorem aec:aC Tryz.prog (86,(.struct [(0,3),(1,3),(2,3),(3,3)]),4,32,[(.int .i64 0),(.int .i64 0),(.int .i64 0),(.int .i64 0)]):=⟨aK (by kernel_rfl),ak (z:=(.agg #[(.int .i64 0),(.int .i64 0),(.int .i64 0),(.int .i64 0)])) (by kernel_rfl) rfl rfl⟩
theorem aed:aC Tryz.prog (87,(.struct [(0,86),(4,3),(5,3)]),6,48,[(.int .i64 0),(.int .i64 0),(.int .i64 0),(.int .i64 0),(.int .i64 0),(.int .i64 0)]):=⟨aK (by kernel_rfl),ak (z:=(.agg #[(.int .i64 0),(.int .i64 0),(.int .i64 0),(.int .i64 0),(.int .i64 0),(.int .i64 0)])) (by kernel_rfl) rfl rfl⟩
theorem aee:aC Tryz.prog (88,(.struct [(0,86),(4,3),(5,3)]),6,48,[(.int .i64 0),(.int .i64 0),(.int .i64 0),(.int .i64 0),(.int .i64 0),(.int .i64 0)]):=⟨aK (by kernel_rfl),ak (z:=(.agg #[(.int .i64 0),(.int .i64 0),(.int .i64 0),(.int .i64 0),(.int .i64 0),(.int .i64 0)])) (by kernel_rfl) rfl rfl⟩
theorem aef:aC Tryz.prog (89,.plain,1,8,[(.nilFunc)]):=⟨au (by kernel_rfl),ak (z:=(.nilFunc)) (by kernel_rfl) rfl rfl⟩
theorem aeg:aC Tryz.prog (90,.plain,1,8,[(.nilFunc)]):=⟨au (by kernel_rfl),ak (z:=(.nilFunc)) (by kernel_rfl) rfl rfl⟩
theorem aeh:aC Tryz.prog (91,(.slice 152),1,24,[(.slice none 0 0)]):=⟨eH (by kernel_rfl),ak (z:=(.slice none 0 0)) (by kernel_rfl) rfl rfl⟩
theorem aei:aC Tryz.prog (92,.plain,1,8,[(.nilFunc)]):=⟨au (by kernel_rfl),ak (z:=(.nilFunc)) (by kernel_rfl) rfl rfl⟩
theorem aej:aC Tryz.prog (93,.plain,1,8,[(.nilFunc)]):=⟨au (by kernel_rfl),ak (z:=(.nilFunc)) (by kernel_rfl) rfl rfl⟩
theorem aek:aC Tryz.prog (94,.plain,1,8,[(.nilFunc)]):=⟨au (by kernel_rfl),ak (z:=(.nilFunc)) (by kernel_rfl) rfl rfl⟩
theorem ael:aC Tryz.prog (95,(.struct [(0,3),(1,3)]),2,16,[(.int .i64 0),(.int .i64 0)]):=⟨aK (by kernel_rfl),ak (z:=(.agg #[(.int .i64 0),(.int .i64 0)])) (by kernel_rfl) rfl rfl⟩
theorem aem:aC Tryz.prog (96,(.struct [(0,3),(1,3)]),2,16,[(.int .i64 0),(.int .i64 0)]):=⟨aK (by kernel_rfl),ak (z:=(.agg #[(.int .i64 0),(.int .i64 0)])) (by kernel_rfl) rfl rfl⟩
theorem aen:aC Tryz.prog (97,.plain,1,8,[(.nilFunc)]):=⟨au (by kernel_rfl),ak (z:=(.nilFunc)) (by kernel_rfl) rfl rfl⟩
theorem aeo:aC Tryz.prog (98,.plain,1,8,[(.nilFunc)]):=⟨au (by kernel_rfl),ak (z:=(.nilFunc)) (by kernel_rfl) rfl rfl⟩
theorem aep:aC Tryz.prog (99,.plain,1,8,[(.nilFunc)]):=⟨au (by kernel_rfl),ak (z:=(.nilFunc)) (by kernel_rfl) rfl rfl⟩
theorem Z4:aC Tryz.prog (100,.plain,1,8,[(.nilFunc)]):=⟨au (by kernel_rfl),ak (z:=(.nilFunc)) (by kernel_rfl) rfl rfl⟩
theorem Z5:aC Tryz.prog (101,.plain,1,8,[(.nilFunc)]):=⟨au (by kernel_rfl),ak (z:=(.nilFunc)) (by kernel_rfl) rfl rfl⟩
theorem Z7:aC Tryz.prog (102,.plain,1,8,[(.nilFunc)]):=⟨au (by kernel_rfl),ak (z:=(.nilFunc)) (by kernel_rfl) rfl rfl⟩
theorem Z8:aC Tryz.prog (103,.plain,1,8,[(.nilFunc)]):=⟨au (by kernel_rfl),ak (z:=(.nilFunc)) (by kernel_rfl) rfl rfl⟩
theorem Z9:aC Tryz.prog (104,.plain,1,8,[(.nilFunc)]):=⟨au (by kernel_rfl),ak (z:=(.nilFunc)) (by kernel_rfl) rfl rfl⟩
theorem aac:aC Tryz.prog (105,.plain,1,8,[(.nilFunc)]):=⟨au (by kernel_rfl),ak (z:=(.nilFunc)) (by kernel_rfl) rfl rfl⟩
theorem aad:aC Tryz.prog (107,.plain,1,8,[(.nilFunc)]):=⟨au (by kernel_rfl),ak (z:=(.nilFunc)) (by kernel_rfl) rfl rfl⟩
theorem aae:aC Tryz.prog (108,.plain,1,8,[(.nilFunc)]):=⟨au (by kernel_rfl),ak (z:=(.nilFunc)) (by kernel_rfl) rfl rfl⟩
theorem aaf:aC Tryz.prog (109,.plain,1,8,[(.nilFunc)]):=⟨au (by kernel_rfl),ak (z:=(.nilFunc)) (by kernel_rfl) rfl rfl⟩
theorem aag:aC Tryz.prog (110,.plain,1,8,[(.nilFunc)]):=⟨au (by kernel_rfl),ak (z:=(.nilFunc)) (by kernel_rfl) rfl rfl⟩
theorem aah:aC Tryz.prog (111,.plain,1,8,[(.nilFunc)]):=⟨au (by kernel_rfl),ak (z:=(.nilFunc)) (by kernel_rfl) rfl rfl⟩
theorem aai:aC Tryz.prog (112,.plain,1,8,[(.nilFunc)]):=⟨au (by kernel_rfl),ak (z:=(.nilFunc)) (by kernel_rfl) rfl rfl⟩
theorem aaj:aC Tryz.prog (113,(.struct [(0,24)]),1,24,[(.slice none 0 0)]):=⟨aK (by kernel_rfl),ak (z:=(.agg #[(.slice none 0 0)])) (by kernel_rfl) rfl rfl⟩
theorem aak:aC Tryz.prog (114,(.struct [(0,24)]),1,24,[(.slice none 0 0)]):=⟨aK (by kernel_rfl),ak (z:=(.agg #[(.slice none 0 0)])) (by kernel_rfl) rfl rfl⟩
theorem aal:aC Tryz.prog (115,.plain,1,8,[(.nilFunc)]):=⟨au (by kernel_rfl),ak (z:=(.nilFunc)) (by kernel_rfl) rfl rfl⟩
theorem aam:aC Tryz.prog (116,.plain,1,8,[(.nilFunc)]):=⟨au (by kernel_rfl),ak (z:=(.nilFunc)) (by kernel_rfl) rfl rfl⟩
theorem aan:aC Tryz.prog (117,.plain,1,8,[(.nilFunc)]):=⟨au (by kernel_rfl),ak (z:=(.nilFunc)) (by kernel_rfl) rfl rfl⟩
theorem aao:aC Tryz.prog (118,.plain,1,8,[(.nilFunc)]):=⟨au (by kernel_rfl),ak (z:=(.nilFunc)) (by kernel_rfl) rfl rfl⟩
theorem aap:aC Tryz.prog (119,.plain,1,8,[(.nilFunc)]):=⟨au (by kernel_rfl),ak (z:=(.nilFunc)) (by kernel_rfl) rfl rfl⟩
theorem aaq:aC Tryz.prog (120,.plain,1,8,[(.nilFunc)]):=⟨au (by kernel_rfl),ak (z:=(.nilFunc)) (by kernel_rfl) rfl rfl⟩
theorem aar:aC Tryz.prog (121,.plain,1,8,[(.pointer none)]):=⟨au (by kernel_rfl),ak (z:=(.pointer none)) (by kernel_rfl) rfl rfl⟩
theorem aas:aC Tryz.prog (123,.plain,1,8,[(.nilFunc)]):=⟨au (by kernel_rfl),ak (z:=(.nilFunc)) (by kernel_rfl) rfl rfl⟩
theorem aat:aC Tryz.prog (124,.plain,1,8,[(.nilFunc)]):=⟨au (by kernel_rfl),ak (z:=(.nilFunc)) (by kernel_rfl) rfl rfl⟩
theorem aau:aC Tryz.prog (125,.plain,1,8,[(.nilFunc)]):=⟨au (by kernel_rfl),ak (z:=(.nilFunc)) (by kernel_rfl) rfl rfl⟩
theorem aav:aC Tryz.prog (126,.plain,1,8,[(.nilFunc)]):=⟨au (by kernel_rfl),ak (z:=(.nilFunc)) (by kernel_rfl) rfl rfl⟩
theorem aaw:aC Tryz.prog (127,.plain,1,8,[(.nilFunc)]):=⟨au (by kernel_rfl),ak (z:=(.nilFunc)) (by kernel_rfl) rfl rfl⟩
theorem aax:aC Tryz.prog (128,.plain,1,8,[(.nilFunc)]):=⟨au (by kernel_rfl),ak (z:=(.nilFunc)) (by kernel_rfl) rfl rfl⟩
theorem aay:aC Tryz.prog (129,(.slice 24),1,24,[(.slice none 0 0)]):=⟨eH (by kernel_rfl),ak (z:=(.slice none 0 0)) (by kernel_rfl) rfl rfl⟩
theorem aaz:aC Tryz.prog (130,.plain,1,8,[(.nilFunc)]):=⟨au (by kernel_rfl),ak (z:=(.nilFunc)) (by kernel_rfl) rfl rfl⟩
theorem aaA:aC Tryz.prog (131,(.slice 179),1,24,[(.slice none 0 0)]):=⟨eH (by kernel_rfl),ak (z:=(.slice none 0 0)) (by kernel_rfl) rfl rfl⟩
theorem aaB:aC Tryz.prog (132,(.struct [(0,57),(1,131),(2,4)]),3,56,[(.slice none 0 0),(.slice none 0 0),(.bool false)]):=⟨aK (by kernel_rfl),ak (z:=(.agg #[(.slice none 0 0),(.slice none 0 0),(.bool false)])) (by kernel_rfl) rfl rfl⟩
theorem aaC:aC Tryz.prog (133,(.struct [(0,57),(1,131),(2,4)]),3,56,[(.slice none 0 0),(.slice none 0 0),(.bool false)]):=⟨aK (by kernel_rfl),ak (z:=(.agg #[(.slice none 0 0),(.slice none 0 0),(.bool false)])) (by kernel_rfl) rfl rfl⟩
theorem aaD:aC Tryz.prog (134,.plain,1,8,[(.nilFunc)]):=⟨au (by kernel_rfl),ak (z:=(.nilFunc)) (by kernel_rfl) rfl rfl⟩
theorem aaE:aC Tryz.prog (135,.plain,1,8,[(.nilFunc)]):=⟨au (by kernel_rfl),ak (z:=(.nilFunc)) (by kernel_rfl) rfl rfl⟩
theorem aaF:aC Tryz.prog (136,.plain,1,8,[(.nilFunc)]):=⟨au (by kernel_rfl),ak (z:=(.nilFunc)) (by kernel_rfl) rfl rfl⟩
theorem aaG:aC Tryz.prog (137,.plain,1,8,[(.nilFunc)]):=⟨au (by kernel_rfl),ak (z:=(.nilFunc)) (by kernel_rfl) rfl rfl⟩
theorem aaH:aC Tryz.prog (138,.plain,1,8,[(.nilFunc)]):=⟨au (by kernel_rfl),ak (z:=(.nilFunc)) (by kernel_rfl) rfl rfl⟩
theorem aaI:aC Tryz.prog (139,.plain,1,8,[(.nilFunc)]):=⟨au (by kernel_rfl),ak (z:=(.nilFunc)) (by kernel_rfl) rfl rfl⟩
theorem aaJ:aC Tryz.prog (140,.plain,1,8,[(.nilFunc)]):=⟨au (by kernel_rfl),ak (z:=(.nilFunc)) (by kernel_rfl) rfl rfl⟩
theorem aaK:aC Tryz.prog (141,.plain,1,8,[(.nilFunc)]):=⟨au (by kernel_rfl),ak (z:=(.nilFunc)) (by kernel_rfl) rfl rfl⟩
theorem aaL:aC Tryz.prog (142,.plain,1,8,[(.nilFunc)]):=⟨au (by kernel_rfl),ak (z:=(.nilFunc)) (by kernel_rfl) rfl rfl⟩
theorem aaM:aC Tryz.prog (144,.plain,1,8,[(.nilFunc)]):=⟨au (by kernel_rfl),ak (z:=(.nilFunc)) (by kernel_rfl) rfl rfl⟩
theorem aaN:aC Tryz.prog (145,(.arr 2 3),2,16,[(.int .i64 0),(.int .i64 0)]):=⟨Zq (by kernel_rfl),ak (z:=(.agg #[(.int .i64 0),(.int .i64 0)])) (by kernel_rfl) rfl rfl⟩
theorem aaO:aC Tryz.prog (146,.plain,1,8,[(.nilFunc)]):=⟨au (by kernel_rfl),ak (z:=(.nilFunc)) (by kernel_rfl) rfl rfl⟩
theorem aaP:aC Tryz.prog (147,.plain,1,8,[(.nilFunc)]):=⟨au (by kernel_rfl),ak (z:=(.nilFunc)) (by kernel_rfl) rfl rfl⟩
theorem aaQ:aC Tryz.prog (148,.plain,1,8,[(.nilFunc)]):=⟨au (by kernel_rfl),ak (z:=(.nilFunc)) (by kernel_rfl) rfl rfl⟩
theorem aaR:aC Tryz.prog (149,.plain,1,8,[(.nilFunc)]):=⟨au (by kernel_rfl),ak (z:=(.nilFunc)) (by kernel_rfl) rfl rfl⟩
theorem aaS:aC Tryz.prog (150,.plain,1,8,[(.nilFunc)]):=⟨au (by kernel_rfl),ak (z:=(.nilFunc)) (by kernel_rfl) rfl rfl⟩
theorem aaT:aC Tryz.prog (151,.plain,1,8,[(.nilFunc)]):=⟨au (by kernel_rfl),ak (z:=(.nilFunc)) (by kernel_rfl) rfl rfl⟩
theorem aaU:aC Tryz.prog (152,(.slice 154),1,24,[(.slice none 0 0)]):=⟨eH (by kernel_rfl),ak (z:=(.slice none 0 0)) (by kernel_rfl) rfl rfl⟩
theorem aaV:aC Tryz.prog (153,(.struct [(0,3),(1,3),(2,3),(3,3)]),4,32,[(.int .i64 0),(.int .i64 0),(.int .i64 0),(.int .i64 0)]):=⟨aK (by kernel_rfl),ak (z:=(.agg #[(.int .i64 0),(.int .i64 0),(.int .i64 0),(.int .i64 0)])) (by kernel_rfl) rfl rfl⟩
theorem aaW:aC Tryz.prog (154,(.struct [(0,3),(1,3),(2,3),(3,3)]),4,32,[(.int .i64 0),(.int .i64 0),(.int .i64 0),(.int .i64 0)]):=⟨aK (by kernel_rfl),ak (z:=(.agg #[(.int .i64 0),(.int .i64 0),(.int .i64 0),(.int .i64 0)])) (by kernel_rfl) rfl rfl⟩
theorem aaX:aC Tryz.prog (155,.plain,1,8,[(.nilFunc)]):=⟨au (by kernel_rfl),ak (z:=(.nilFunc)) (by kernel_rfl) rfl rfl⟩
theorem aaY:aC Tryz.prog (156,.plain,1,8,[(.pointer none)]):=⟨au (by kernel_rfl),ak (z:=(.pointer none)) (by kernel_rfl) rfl rfl⟩
theorem aaZ:aC Tryz.prog (157,.plain,1,8,[(.nilFunc)]):=⟨au (by kernel_rfl),ak (z:=(.nilFunc)) (by kernel_rfl) rfl rfl⟩
theorem aa0:aC Tryz.prog (158,.plain,1,8,[(.nilFunc)]):=⟨au (by kernel_rfl),ak (z:=(.nilFunc)) (by kernel_rfl) rfl rfl⟩
theorem aa1:aC Tryz.prog (159,.plain,1,8,[(.nilFunc)]):=⟨au (by kernel_rfl),ak (z:=(.nilFunc)) (by kernel_rfl) rfl rfl⟩
theorem aa2:aC Tryz.prog (160,(.slice 192),1,24,[(.slice none 0 0)]):=⟨eH (by kernel_rfl),ak (z:=(.slice none 0 0)) (by kernel_rfl) rfl rfl⟩
theorem aa3:aC Tryz.prog (161,.plain,1,8,[(.nilFunc)]):=⟨au (by kernel_rfl),ak (z:=(.nilFunc)) (by kernel_rfl) rfl rfl⟩
theorem aa4:aC Tryz.prog (162,.plain,1,8,[(.nilFunc)]):=⟨au (by kernel_rfl),ak (z:=(.nilFunc)) (by kernel_rfl) rfl rfl⟩
theorem aa5:aC Tryz.prog (163,.plain,1,8,[(.nilFunc)]):=⟨au (by kernel_rfl),ak (z:=(.nilFunc)) (by kernel_rfl) rfl rfl⟩
theorem aa6:aC Tryz.prog (164,.plain,1,8,[(.nilFunc)]):=⟨au (by kernel_rfl),ak (z:=(.nilFunc)) (by kernel_rfl) rfl rfl⟩
theorem aa7:aC Tryz.prog (165,.plain,1,8,[(.nilFunc)]):=⟨au (by kernel_rfl),ak (z:=(.nilFunc)) (by kernel_rfl) rfl rfl⟩
theorem aa8:aC Tryz.prog (166,.plain,1,8,[(.nilFunc)]):=⟨au (by kernel_rfl),ak (z:=(.nilFunc)) (by kernel_rfl) rfl rfl⟩
theorem aa9:aC Tryz.prog (167,.plain,1,8,[(.nilFunc)]):=⟨au (by kernel_rfl),ak (z:=(.nilFunc)) (by kernel_rfl) rfl rfl⟩
theorem abb:aC Tryz.prog (168,.plain,1,8,[(.nilFunc)]):=⟨au (by kernel_rfl),ak (z:=(.nilFunc)) (by kernel_rfl) rfl rfl⟩
theorem abd:aC Tryz.prog (169,.plain,1,8,[(.nilFunc)]):=⟨au (by kernel_rfl),ak (z:=(.nilFunc)) (by kernel_rfl) rfl rfl⟩
theorem abe:aC Tryz.prog (170,(.slice 86),1,24,[(.slice none 0 0)]):=⟨eH (by kernel_rfl),ak (z:=(.slice none 0 0)) (by kernel_rfl) rfl rfl⟩
theorem abf:aC Tryz.prog (171,(.struct [(0,57),(1,170),(2,3)]),3,56,[(.slice none 0 0),(.slice none 0 0),(.int .i64 0)]):=⟨aK (by kernel_rfl),ak (z:=(.agg #[(.slice none 0 0),(.slice none 0 0),(.int .i64 0)])) (by kernel_rfl) rfl rfl⟩
theorem abg:aC Tryz.prog (172,(.struct [(0,57),(1,170),(2,3)]),3,56,[(.slice none 0 0),(.slice none 0 0),(.int .i64 0)]):=⟨aK (by kernel_rfl),ak (z:=(.agg #[(.slice none 0 0),(.slice none 0 0),(.int .i64 0)])) (by kernel_rfl) rfl rfl⟩
theorem abh:aC Tryz.prog (174,.plain,1,8,[(.nilFunc)]):=⟨au (by kernel_rfl),ak (z:=(.nilFunc)) (by kernel_rfl) rfl rfl⟩
theorem abj:aC Tryz.prog (175,.plain,1,8,[(.nilFunc)]):=⟨au (by kernel_rfl),ak (z:=(.nilFunc)) (by kernel_rfl) rfl rfl⟩
theorem abk:aC Tryz.prog (176,(.struct [(0,24),(1,24),(2,24),(3,4)]),4,80,[(.slice none 0 0),(.slice none 0 0),(.slice none 0 0),(.bool false)]):=⟨aK (by kernel_rfl),ak (z:=(.agg #[(.slice none 0 0),(.slice none 0 0),(.slice none 0 0),(.bool false)])) (by kernel_rfl) rfl rfl⟩
theorem abl:aC Tryz.prog (177,(.struct [(0,24),(1,24),(2,24),(3,4)]),4,80,[(.slice none 0 0),(.slice none 0 0),(.slice none 0 0),(.bool false)]):=⟨aK (by kernel_rfl),ak (z:=(.agg #[(.slice none 0 0),(.slice none 0 0),(.slice none 0 0),(.bool false)])) (by kernel_rfl) rfl rfl⟩
theorem abm:aC Tryz.prog (178,.plain,1,8,[(.nilFunc)]):=⟨au (by kernel_rfl),ak (z:=(.nilFunc)) (by kernel_rfl) rfl rfl⟩
theorem abn:aC Tryz.prog (179,(.slice 181),1,24,[(.slice none 0 0)]):=⟨eH (by kernel_rfl),ak (z:=(.slice none 0 0)) (by kernel_rfl) rfl rfl⟩
theorem abo:aC Tryz.prog (180,(.struct [(0,3),(1,3),(2,3)]),3,24,[(.int .i64 0),(.int .i64 0),(.int .i64 0)]):=⟨aK (by kernel_rfl),ak (z:=(.agg #[(.int .i64 0),(.int .i64 0),(.int .i64 0)])) (by kernel_rfl) rfl rfl⟩
theorem abp:aC Tryz.prog (181,(.struct [(0,3),(1,3),(2,3)]),3,24,[(.int .i64 0),(.int .i64 0),(.int .i64 0)]):=⟨aK (by kernel_rfl),ak (z:=(.agg #[(.int .i64 0),(.int .i64 0),(.int .i64 0)])) (by kernel_rfl) rfl rfl⟩
theorem abq:aC Tryz.prog (182,(.struct [(0,29),(1,29),(2,3)]),3,56,[(.slice none 0 0),(.slice none 0 0),(.int .i64 0)]):=⟨aK (by kernel_rfl),ak (z:=(.agg #[(.slice none 0 0),(.slice none 0 0),(.int .i64 0)])) (by kernel_rfl) rfl rfl⟩
theorem abr:aC Tryz.prog (183,(.struct [(0,29),(1,29),(2,3)]),3,56,[(.slice none 0 0),(.slice none 0 0),(.int .i64 0)]):=⟨aK (by kernel_rfl),ak (z:=(.agg #[(.slice none 0 0),(.slice none 0 0),(.int .i64 0)])) (by kernel_rfl) rfl rfl⟩
theorem abt:aC Tryz.prog (184,.plain,1,8,[(.nilFunc)]):=⟨au (by kernel_rfl),ak (z:=(.nilFunc)) (by kernel_rfl) rfl rfl⟩
theorem abu:aC Tryz.prog (186,.plain,1,8,[(.nilFunc)]):=⟨au (by kernel_rfl),ak (z:=(.nilFunc)) (by kernel_rfl) rfl rfl⟩
theorem abv:aC Tryz.prog (187,.plain,1,8,[(.nilFunc)]):=⟨au (by kernel_rfl),ak (z:=(.nilFunc)) (by kernel_rfl) rfl rfl⟩
theorem abw:aC Tryz.prog (188,.plain,1,8,[(.nilFunc)]):=⟨au (by kernel_rfl),ak (z:=(.nilFunc)) (by kernel_rfl) rfl rfl⟩
theorem abx:aC Tryz.prog (189,.plain,1,8,[(.nilFunc)]):=⟨au (by kernel_rfl),ak (z:=(.nilFunc)) (by kernel_rfl) rfl rfl⟩
theorem aby:aC Tryz.prog (190,.plain,1,8,[(.nilFunc)]):=⟨au (by kernel_rfl),ak (z:=(.nilFunc)) (by kernel_rfl) rfl rfl⟩
theorem abz:aC Tryz.prog (191,.plain,1,8,[(.nilFunc)]):=⟨au (by kernel_rfl),ak (z:=(.nilFunc)) (by kernel_rfl) rfl rfl⟩
theorem abA:aC Tryz.prog (192,(.slice 4),1,24,[(.slice none 0 0)]):=⟨eH (by kernel_rfl),ak (z:=(.slice none 0 0)) (by kernel_rfl) rfl rfl⟩
theorem abB:aC Tryz.prog (193,(.slice 197),1,24,[(.slice none 0 0)]):=⟨eH (by kernel_rfl),ak (z:=(.slice none 0 0)) (by kernel_rfl) rfl rfl⟩
theorem abC:aC Tryz.prog (194,(.struct [(0,192),(1,193)]),2,48,[(.slice none 0 0),(.slice none 0 0)]):=⟨aK (by kernel_rfl),ak (z:=(.agg #[(.slice none 0 0),(.slice none 0 0)])) (by kernel_rfl) rfl rfl⟩
theorem abD:aC Tryz.prog (195,(.struct [(0,192),(1,193)]),2,48,[(.slice none 0 0),(.slice none 0 0)]):=⟨aK (by kernel_rfl),ak (z:=(.agg #[(.slice none 0 0),(.slice none 0 0)])) (by kernel_rfl) rfl rfl⟩
theorem abE:aC Tryz.prog (196,.plain,1,8,[(.nilFunc)]):=⟨au (by kernel_rfl),ak (z:=(.nilFunc)) (by kernel_rfl) rfl rfl⟩
theorem abG:aC Tryz.prog (197,(.slice 199),1,24,[(.slice none 0 0)]):=⟨eH (by kernel_rfl),ak (z:=(.slice none 0 0)) (by kernel_rfl) rfl rfl⟩
theorem abH:aC Tryz.prog (198,(.struct [(0,3),(1,3)]),2,16,[(.int .i64 0),(.int .i64 0)]):=⟨aK (by kernel_rfl),ak (z:=(.agg #[(.int .i64 0),(.int .i64 0)])) (by kernel_rfl) rfl rfl⟩
theorem abI:aC Tryz.prog (199,(.struct [(0,3),(1,3)]),2,16,[(.int .i64 0),(.int .i64 0)]):=⟨aK (by kernel_rfl),ak (z:=(.agg #[(.int .i64 0),(.int .i64 0)])) (by kernel_rfl) rfl rfl⟩
theorem abJ:aC Tryz.prog (200,.plain,1,8,[(.nilFunc)]):=⟨au (by kernel_rfl),ak (z:=(.nilFunc)) (by kernel_rfl) rfl rfl⟩
theorem abK:aC Tryz.prog (201,.plain,1,8,[(.nilFunc)]):=⟨au (by kernel_rfl),ak (z:=(.nilFunc)) (by kernel_rfl) rfl rfl⟩
theorem abL:aC Tryz.prog (202,.plain,1,8,[(.nilFunc)]):=⟨au (by kernel_rfl),ak (z:=(.nilFunc)) (by kernel_rfl) rfl rfl⟩
theorem abM:aC Tryz.prog (203,.plain,1,8,[(.nilFunc)]):=⟨au (by kernel_rfl),ak (z:=(.nilFunc)) (by kernel_rfl) rfl rfl⟩
theorem abN:aC Tryz.prog (204,.plain,1,8,[(.nilFunc)]):=⟨au (by kernel_rfl),ak (z:=(.nilFunc)) (by kernel_rfl) rfl rfl⟩
theorem abO:aC Tryz.prog (205,.plain,1,8,[(.nilFunc)]):=⟨au (by kernel_rfl),ak (z:=(.nilFunc)) (by kernel_rfl) rfl rfl⟩
theorem abP:aC Tryz.prog (206,.plain,1,8,[(.nilFunc)]):=⟨au (by kernel_rfl),ak (z:=(.nilFunc)) (by kernel_rfl) rfl rfl⟩
theorem abQ:aC Tryz.prog (207,.plain,1,8,[(.nilFunc)]):=⟨au (by kernel_rfl),ak (z:=(.nilFunc)) (by kernel_rfl) rfl rfl⟩
theorem abR:aC Tryz.prog (208,.plain,1,8,[(.nilFunc)]):=⟨au (by kernel_rfl),ak (z:=(.nilFunc)) (by kernel_rfl) rfl rfl⟩
theorem abS:aC Tryz.prog (209,.plain,1,8,[(.nilFunc)]):=⟨au (by kernel_rfl),ak (z:=(.nilFunc)) (by kernel_rfl) rfl rfl⟩
theorem abT:aC Tryz.prog (210,.plain,1,8,[(.nilFunc)]):=⟨au (by kernel_rfl),ak (z:=(.nilFunc)) (by kernel_rfl) rfl rfl⟩
theorem abU:aC Tryz.prog (211,.plain,1,8,[(.nilFunc)]):=⟨au (by kernel_rfl),ak (z:=(.nilFunc)) (by kernel_rfl) rfl rfl⟩
theorem abV:aC Tryz.prog (212,.plain,1,8,[(.nilFunc)]):=⟨au (by kernel_rfl),ak (z:=(.nilFunc)) (by kernel_rfl) rfl rfl⟩
theorem abW:aC Tryz.prog (213,.plain,1,8,[(.nilFunc)]):=⟨au (by kernel_rfl),ak (z:=(.nilFunc)) (by kernel_rfl) rfl rfl⟩
theorem abX:aC Tryz.prog (214,.plain,1,8,[(.nilFunc)]):=⟨au (by kernel_rfl),ak (z:=(.nilFunc)) (by kernel_rfl) rfl rfl⟩
theorem abY:aC Tryz.prog (215,.plain,1,8,[(.nilFunc)]):=⟨au (by kernel_rfl),ak (z:=(.nilFunc)) (by kernel_rfl) rfl rfl⟩
theorem abZ:aC Tryz.prog (216,.plain,1,8,[(.int .u64 0)]):=⟨au (by kernel_rfl),ak (z:=(.int .u64 0)) (by kernel_rfl) rfl rfl⟩
theorem ab1:aC Tryz.prog (218,.plain,1,8,[(.nilFunc)]):=⟨au (by kernel_rfl),ak (z:=(.nilFunc)) (by kernel_rfl) rfl rfl⟩
theorem ab2:aC Tryz.prog (219,.plain,1,8,[(.nilFunc)]):=⟨au (by kernel_rfl),ak (z:=(.nilFunc)) (by kernel_rfl) rfl rfl⟩
theorem ab3:aC Tryz.prog (220,(.slice 222),1,24,[(.slice none 0 0)]):=⟨eH (by kernel_rfl),ak (z:=(.slice none 0 0)) (by kernel_rfl) rfl rfl⟩
theorem ab4:aC Tryz.prog (221,(.struct [(0,4),(1,3),(2,3)]),3,24,[(.bool false),(.int .i64 0),(.int .i64 0)]):=⟨aK (by kernel_rfl),ak (z:=(.agg #[(.bool false),(.int .i64 0),(.int .i64 0)])) (by kernel_rfl) rfl rfl⟩
theorem ab5:aC Tryz.prog (222,(.struct [(0,4),(1,3),(2,3)]),3,24,[(.bool false),(.int .i64 0),(.int .i64 0)]):=⟨aK (by kernel_rfl),ak (z:=(.agg #[(.bool false),(.int .i64 0),(.int .i64 0)])) (by kernel_rfl) rfl rfl⟩
theorem ab6:aC Tryz.prog (223,.plain,1,8,[(.nilFunc)]):=⟨au (by kernel_rfl),ak (z:=(.nilFunc)) (by kernel_rfl) rfl rfl⟩
theorem ab7:aC Tryz.prog (224,.plain,1,4,[(.int .u32 0)]):=⟨au (by kernel_rfl),ak (z:=(.int .u32 0)) (by kernel_rfl) rfl rfl⟩
theorem ab8:aC Tryz.prog (226,.plain,1,8,[(.nilFunc)]):=⟨au (by kernel_rfl),ak (z:=(.nilFunc)) (by kernel_rfl) rfl rfl⟩
theorem ab9:aC Tryz.prog (228,.plain,1,8,[(.nilFunc)]):=⟨au (by kernel_rfl),ak (z:=(.nilFunc)) (by kernel_rfl) rfl rfl⟩
theorem acd:aC Tryz.prog (229,.plain,1,8,[(.nilFunc)]):=⟨au (by kernel_rfl),ak (z:=(.nilFunc)) (by kernel_rfl) rfl rfl⟩
theorem ace:aC Tryz.prog (230,.plain,1,8,[(.nilFunc)]):=⟨au (by kernel_rfl),ak (z:=(.nilFunc)) (by kernel_rfl) rfl rfl⟩
theorem acf:aC Tryz.prog (231,(.struct [(0,17),(1,17),(2,17),(3,9)]),4,40,[(.pointer none),(.pointer none),(.pointer none),(.string ⟨#[]⟩)]):=⟨aK (by kernel_rfl),ak (z:=(.agg #[(.pointer none),(.pointer none),(.pointer none),(.string ⟨#[]⟩)])) (by kernel_rfl) rfl rfl⟩
theorem acg:aC Tryz.prog (232,(.struct [(0,17),(1,17),(2,17),(3,9)]),4,40,[(.pointer none),(.pointer none),(.pointer none),(.string ⟨#[]⟩)]):=⟨aK (by kernel_rfl),ak (z:=(.agg #[(.pointer none),(.pointer none),(.pointer none),(.string ⟨#[]⟩)])) (by kernel_rfl) rfl rfl⟩
theorem ach:aC Tryz.prog (236,.plain,1,1,[(.int .u8 0)]):=⟨au (by kernel_rfl),ak (z:=(.int .u8 0)) (by kernel_rfl) rfl rfl⟩
theorem aci:aC Tryz.prog (237,.plain,1,1,[(.int .u8 0)]):=⟨au (by kernel_rfl),ak (z:=(.int .u8 0)) (by kernel_rfl) rfl rfl⟩
theorem acj:aC Tryz.prog (238,.plain,1,8,[(.nilFunc)]):=⟨au (by kernel_rfl),ak (z:=(.nilFunc)) (by kernel_rfl) rfl rfl⟩
theorem acn:aC Tryz.prog (239,.plain,1,8,[(.pointer none)]):=⟨au (by kernel_rfl),ak (z:=(.pointer none)) (by kernel_rfl) rfl rfl⟩
theorem aco:aC Tryz.prog (240,.plain,1,4,[(.int .i32 0)]):=⟨au (by kernel_rfl),ak (z:=(.int .i32 0)) (by kernel_rfl) rfl rfl⟩
theorem acp:aC Tryz.prog (241,.plain,1,4,[(.int .i32 0)]):=⟨au (by kernel_rfl),ak (z:=(.int .i32 0)) (by kernel_rfl) rfl rfl⟩
theorem acr:aC Tryz.prog (242,(.struct [(0,12),(1,12),(2,224),(3,236),(4,5),(5,5),(6,237),(7,238),(8,239),(9,240),(10,241)]),11,48,[(.int .u64 0),(.int .u64 0),(.int .u32 0),(.int .u8 0),(.int .u8 0),(.int .u8 0),(.int .u8 0),(.nilFunc),(.pointer none),(.int .i32 0),(.int .i32 0)]):=⟨aK (by kernel_rfl),ak (z:=(.agg #[(.int .u64 0),(.int .u64 0),(.int .u32 0),(.int .u8 0),(.int .u8 0),(.int .u8 0),(.int .u8 0),(.nilFunc),(.pointer none),(.int .i32 0),(.int .i32 0)])) (by kernel_rfl) rfl rfl⟩
theorem acs:aC Tryz.prog (243,(.struct [(0,12),(1,12),(2,224),(3,236),(4,5),(5,5),(6,237),(7,238),(8,239),(9,240),(10,241)]),11,48,[(.int .u64 0),(.int .u64 0),(.int .u32 0),(.int .u8 0),(.int .u8 0),(.int .u8 0),(.int .u8 0),(.nilFunc),(.pointer none),(.int .i32 0),(.int .i32 0)]):=⟨aK (by kernel_rfl),ak (z:=(.agg #[(.int .u64 0),(.int .u64 0),(.int .u32 0),(.int .u8 0),(.int .u8 0),(.int .u8 0),(.int .u8 0),(.nilFunc),(.pointer none),(.int .i32 0),(.int .i32 0)])) (by kernel_rfl) rfl rfl⟩
def acU:List Nat:=[145]
theorem allEq:Xx Tryz.prog acU:=⟨by kernel_rfl,trivial⟩
def acV:List Nat:=[27,28,95,96,198,199]
theorem acR:Xz Tryz.prog rows acV:=⟨⟨rfl,by kernel_rfl,by kernel_rfl,_,_,Tryz.underlying27,by decide,by decide,rfl,rfl,by kernel_rfl,by kernel_rfl⟩,⟨rfl,by kernel_rfl,by kernel_rfl,_,_,Tryz.underlying28,by decide,by decide,rfl,rfl,by kernel_rfl,by kernel_rfl⟩,⟨rfl,by kernel_rfl,by kernel_rfl,_,_,Tryz.underlying95,by decide,by decide,rfl,rfl,by kernel_rfl,by kernel_rfl⟩,⟨rfl,by kernel_rfl,by kernel_rfl,_,_,Tryz.underlying96,by decide,by decide,rfl,rfl,by kernel_rfl,by kernel_rfl⟩,⟨rfl,by kernel_rfl,by kernel_rfl,_,_,Tryz.underlying198,by decide,by decide,rfl,rfl,by kernel_rfl,by kernel_rfl⟩,⟨rfl,by kernel_rfl,by kernel_rfl,_,_,Tryz.underlying199,by decide,by decide,rfl,rfl,by kernel_rfl,by kernel_rfl⟩,trivial⟩
def cf:Cfg:=XI rows acU acV
theorem allRows:Xy Tryz.prog rows:=⟨aeU,aeV,row3,row4,aeW,aeX,aeY,aeZ,ae0,adh,adi,adk,adl,adn,ado,adp,adq,ads,adt,adu,row22,row23,row24,row25,row26,row27,row28,adw,adx,ady,row35,adz,row38,row39,adA,adB,adC,adD,row47,adE,adF,adG,adH,adI,adJ,adK,adL,adM,adN,adO,adP,adQ,adR,adT,adU,adV,adW,adX,adY,adZ,ad1,ad2,ad3,ad4,ad5,ad6,ad7,ad8,ad9,aea,aeb,aec,aed,aee,aef,aeg,aeh,aei,aej,aek,ael,aem,aen,aeo,aep,Z4,Z5,Z7,Z8,Z9,aac,aad,aae,aaf,aag,aah,aai,aaj,aak,aal,aam,aan,aao,aap,aaq,aar,aas,aat,aau,aav,aaw,aax,aay,aaz,aaA,aaB,aaC,aaD,aaE,aaF,aaG,aaH,aaI,aaJ,aaK,aaL,aaM,aaN,aaO,aaP,aaQ,aaR,aaS,aaT,aaU,aaV,aaW,aaX,aaY,aaZ,aa0,aa1,aa2,aa3,aa4,aa5,aa6,aa7,aa8,aa9,abb,abd,abe,abf,abg,abh,abj,abk,abl,abm,abn,abo,abp,abq,abr,abt,abu,abv,abw,abx,aby,abz,abA,abB,abC,abD,abE,abG,abH,abI,abJ,abK,abL,abM,abN,abO,abP,abQ,abR,abS,abT,abU,abV,abW,abX,abY,abZ,ab1,ab2,ab3,ab4,ab5,ab6,ab7,ab8,ab9,acd,ace,acf,acg,ach,aci,acj,acn,aco,acp,acr,acs,trivial⟩
theorem aP:jO Tryz.prog cf:=XJ allRows allEq acR
set_option maxRecDepth 100000 in
theorem aes:cf.ty 1 = .plain/\cf.sz 1=1/\cf.ty 2 = .int/\cf.sz 2=1/\cf.bytes 2=8/\cf.zero 2=[(.int .i64 0)]/\cf.ty 3 = .int/\cf.sz 3=1/\cf.bytes 3=8/\cf.zero 3=[(.int .i64 0)]/\cf.ty 4 = .bool/\cf.sz 4=1/\cf.bytes 4=1/\cf.zero 4=[(.bool false)]/\cf.ty 5 = .plain/\cf.sz 5=1/\cf.bytes 5=1/\cf.zero 5=[(.int .u8 0)]/\cf.ty 6 = .plain/\cf.sz 6=1/\cf.bytes 6=1/\cf.zero 6=[(.int .u8 0)]/\cf.ty 7=(.struct [(0,2),(1,3),(2,4),(3,6)])/\cf.sz 7=4/\cf.bytes 7=24/\cf.zero 7=[(.int .i64 0),(.int .i64 0),(.bool false),(.int .u8 0)]/\cf.ty 8=(.struct [(0,2),(1,3),(2,4),(3,6)])/\cf.sz 8=4/\cf.bytes 8=24/\cf.zero 8=[(.int .i64 0),(.int .i64 0),(.bool false),(.int .u8 0)]/\cf.ty 9 = .plain/\cf.sz 9=1/\cf.ty 10 = .plain/\cf.sz 10=1/\cf.ty 11 = .plain/\cf.sz 11=1/\cf.ty 12 = .plain/\cf.sz 12=1/\cf.bytes 12=8/\cf.zero 12=[(.int .u64 0)]/\cf.ty 13=(.struct [(0,9),(1,12)])/\cf.sz 13=2/\cf.bytes 13=24/\cf.zero 13=[(.string ⟨#[]⟩),(.int .u64 0)]/\cf.ty 14=(.struct [(0,9),(1,12)])/\cf.sz 14=2/\cf.bytes 14=24/\cf.zero 14=[(.string ⟨#[]⟩),(.int .u64 0)]/\cf.ty 15 = .plain/\cf.sz 15=1/\cf.ty 16 = .plain:=⟨rfl,rfl,rfl,rfl,rfl,rfl,rfl,rfl,rfl,rfl,rfl,rfl,rfl,rfl,rfl,rfl,rfl,rfl,rfl,rfl,rfl,rfl,rfl,rfl,rfl,rfl,rfl,rfl,rfl,rfl,rfl,rfl,rfl,rfl,rfl,rfl,rfl,rfl,rfl,rfl,rfl,rfl,rfl,rfl,rfl,rfl,rfl,rfl,rfl,rfl,rfl⟩
set_option maxRecDepth 100000 in
theorem aeu:cf.sz 16=1/\cf.ty 17 = .plain/\cf.sz 17=1/\cf.ty 18=(.struct [(0,17)])/\cf.sz 18=1/\cf.bytes 18=8/\cf.zero 18=[(.pointer none)]/\cf.ty 19=(.struct [(0,17)])/\cf.sz 19=1/\cf.bytes 19=8/\cf.zero 19=[(.pointer none)]/\cf.ty 21 = .plain/\cf.sz 21=1/\cf.bytes 21=4/\cf.zero 21=[(.int .i32 0)]/\cf.ty 22=(.slice 5)/\cf.sz 22=1/\cf.bytes 22=24/\cf.zero 22=[(.slice none 0 0)]/\cf.ty 23 = .plain/\cf.sz 23=1/\cf.ty 24=(.slice 29)/\cf.sz 24=1/\cf.bytes 24=24/\cf.zero 24=[(.slice none 0 0)]/\cf.ty 25=(.struct [(0,24),(1,24)])/\cf.sz 25=2/\cf.bytes 25=48/\cf.zero 25=[(.slice none 0 0),(.slice none 0 0)]/\cf.ty 26=(.struct [(0,24),(1,24)])/\cf.sz 26=2/\cf.bytes 26=48/\cf.zero 26=[(.slice none 0 0),(.slice none 0 0)]/\cf.ty 27=(.struct [(0,3),(1,3)])/\cf.sz 27=2/\cf.bytes 27=16/\cf.zero 27=[(.int .i64 0),(.int .i64 0)]/\cf.ty 28=(.struct [(0,3),(1,3)])/\cf.sz 28=2/\cf.bytes 28=16/\cf.zero 28=[(.int .i64 0),(.int .i64 0)]/\cf.ty 29=(.slice 3)/\cf.sz 29=1/\cf.bytes 29=24/\cf.zero 29=[(.slice none 0 0)]/\cf.ty 31 = .plain/\cf.sz 31=1/\cf.ty 33 = .plain/\cf.sz 33=1/\cf.ty 35 = .plain/\cf.sz 35=1:=⟨rfl,rfl,rfl,rfl,rfl,rfl,rfl,rfl,rfl,rfl,rfl,rfl,rfl,rfl,rfl,rfl,rfl,rfl,rfl,rfl,rfl,rfl,rfl,rfl,rfl,rfl,rfl,rfl,rfl,rfl,rfl,rfl,rfl,rfl,rfl,rfl,rfl,rfl,rfl,rfl,rfl,rfl,rfl,rfl,rfl,rfl,rfl,rfl,rfl,rfl,rfl⟩
set_option maxRecDepth 100000 in
theorem aev:cf.ty 36 = .plain/\cf.sz 36=1/\cf.ty 38 = .plain/\cf.sz 38=1/\cf.ty 39 = .plain/\cf.sz 39=1/\cf.ty 40 = .plain/\cf.sz 40=1/\cf.ty 42 = .plain/\cf.sz 42=1/\cf.ty 44 = .plain/\cf.sz 44=1/\cf.ty 46 = .plain/\cf.sz 46=1/\cf.ty 47 = .plain/\cf.sz 47=1/\cf.ty 49 = .plain/\cf.sz 49=1/\cf.ty 51 = .plain/\cf.sz 51=1/\cf.ty 53 = .plain/\cf.sz 53=1/\cf.ty 54 = .plain/\cf.sz 54=1/\cf.ty 55 = .plain/\cf.sz 55=1/\cf.ty 56 = .plain/\cf.sz 56=1/\cf.ty 57=(.slice 145)/\cf.sz 57=1/\cf.bytes 57=24/\cf.zero 57=[(.slice none 0 0)]/\cf.ty 59 = .plain/\cf.sz 59=1/\cf.ty 60 = .plain/\cf.sz 60=1/\cf.ty 61 = .plain/\cf.sz 61=1/\cf.bytes 61=8/\cf.zero 61=[(.int .u64 0)]/\cf.ty 62=(.struct [(0,22),(1,3),(2,61)])/\cf.sz 62=3/\cf.bytes 62=40/\cf.zero 62=[(.slice none 0 0),(.int .i64 0),(.int .u64 0)]/\cf.ty 63=(.struct [(0,22),(1,3),(2,61)])/\cf.sz 63=3/\cf.bytes 63=40/\cf.zero 63=[(.slice none 0 0),(.int .i64 0),(.int .u64 0)]/\cf.ty 64 = .plain/\cf.sz 64=1/\cf.ty 65 = .plain:=⟨rfl,rfl,rfl,rfl,rfl,rfl,rfl,rfl,rfl,rfl,rfl,rfl,rfl,rfl,rfl,rfl,rfl,rfl,rfl,rfl,rfl,rfl,rfl,rfl,rfl,rfl,rfl,rfl,rfl,rfl,rfl,rfl,rfl,rfl,rfl,rfl,rfl,rfl,rfl,rfl,rfl,rfl,rfl,rfl,rfl,rfl,rfl,rfl,rfl,rfl,rfl⟩
set_option maxRecDepth 100000 in
theorem aew:cf.sz 65=1/\cf.ty 66 = .plain/\cf.sz 66=1/\cf.ty 67 = .plain/\cf.sz 67=1/\cf.ty 68 = .plain/\cf.sz 68=1/\cf.ty 70 = .plain/\cf.sz 70=1/\cf.ty 71 = .plain/\cf.sz 71=1/\cf.ty 72 = .plain/\cf.sz 72=1/\cf.ty 73=(.slice 91)/\cf.sz 73=1/\cf.bytes 73=24/\cf.zero 73=[(.slice none 0 0)]/\cf.ty 74=(.struct [(0,57),(1,73),(2,4)])/\cf.sz 74=3/\cf.bytes 74=56/\cf.zero 74=[(.slice none 0 0),(.slice none 0 0),(.bool false)]/\cf.ty 75=(.struct [(0,57),(1,73),(2,4)])/\cf.sz 75=3/\cf.bytes 75=56/\cf.zero 75=[(.slice none 0 0),(.slice none 0 0),(.bool false)]/\cf.ty 77 = .plain/\cf.sz 77=1/\cf.ty 78 = .plain/\cf.sz 78=1/\cf.ty 79=(.slice 82)/\cf.sz 79=1/\cf.bytes 79=24/\cf.zero 79=[(.slice none 0 0)]/\cf.ty 80=(.struct [(0,57),(1,79)])/\cf.sz 80=2/\cf.bytes 80=48/\cf.zero 80=[(.slice none 0 0),(.slice none 0 0)]/\cf.ty 81=(.struct [(0,57),(1,79)])/\cf.sz 81=2/\cf.bytes 81=48/\cf.zero 81=[(.slice none 0 0),(.slice none 0 0)]/\cf.ty 82=(.slice 83)/\cf.sz 82=1/\cf.bytes 82=24/\cf.zero 82=[(.slice none 0 0)]/\cf.ty 83=(.slice 88)/\cf.sz 83=1/\cf.bytes 83=24/\cf.zero 83=[(.slice none 0 0)]/\cf.ty 84 = .plain/\cf.sz 84=1:=⟨rfl,rfl,rfl,rfl,rfl,rfl,rfl,rfl,rfl,rfl,rfl,rfl,rfl,rfl,rfl,rfl,rfl,rfl,rfl,rfl,rfl,rfl,rfl,rfl,rfl,rfl,rfl,rfl,rfl,rfl,rfl,rfl,rfl,rfl,rfl,rfl,rfl,rfl,rfl,rfl,rfl,rfl,rfl,rfl,rfl,rfl,rfl,rfl,rfl,rfl,rfl⟩
set_option maxRecDepth 100000 in
theorem aex:cf.ty 85=(.struct [(0,3),(1,3),(2,3),(3,3)])/\cf.sz 85=4/\cf.bytes 85=32/\cf.zero 85=[(.int .i64 0),(.int .i64 0),(.int .i64 0),(.int .i64 0)]/\cf.ty 86=(.struct [(0,3),(1,3),(2,3),(3,3)])/\cf.sz 86=4/\cf.bytes 86=32/\cf.zero 86=[(.int .i64 0),(.int .i64 0),(.int .i64 0),(.int .i64 0)]/\cf.ty 87=(.struct [(0,86),(4,3),(5,3)])/\cf.sz 87=6/\cf.bytes 87=48/\cf.zero 87=[(.int .i64 0),(.int .i64 0),(.int .i64 0),(.int .i64 0),(.int .i64 0),(.int .i64 0)]/\cf.ty 88=(.struct [(0,86),(4,3),(5,3)])/\cf.sz 88=6/\cf.bytes 88=48/\cf.zero 88=[(.int .i64 0),(.int .i64 0),(.int .i64 0),(.int .i64 0),(.int .i64 0),(.int .i64 0)]/\cf.ty 89 = .plain/\cf.sz 89=1/\cf.ty 90 = .plain/\cf.sz 90=1/\cf.ty 91=(.slice 152)/\cf.sz 91=1/\cf.bytes 91=24/\cf.zero 91=[(.slice none 0 0)]/\cf.ty 92 = .plain/\cf.sz 92=1/\cf.ty 93 = .plain/\cf.sz 93=1/\cf.ty 94 = .plain/\cf.sz 94=1/\cf.ty 95=(.struct [(0,3),(1,3)])/\cf.sz 95=2/\cf.bytes 95=16/\cf.zero 95=[(.int .i64 0),(.int .i64 0)]/\cf.ty 96=(.struct [(0,3),(1,3)])/\cf.sz 96=2/\cf.bytes 96=16/\cf.zero 96=[(.int .i64 0),(.int .i64 0)]/\cf.ty 97 = .plain/\cf.sz 97=1/\cf.ty 98 = .plain/\cf.sz 98=1/\cf.ty 99 = .plain/\cf.sz 99=1/\cf.ty 100 = .plain/\cf.sz 100=1/\cf.ty 101 = .plain/\cf.sz 101=1/\cf.ty 102 = .plain/\cf.sz 102=1/\cf.ty 103 = .plain:=⟨rfl,rfl,rfl,rfl,rfl,rfl,rfl,rfl,rfl,rfl,rfl,rfl,rfl,rfl,rfl,rfl,rfl,rfl,rfl,rfl,rfl,rfl,rfl,rfl,rfl,rfl,rfl,rfl,rfl,rfl,rfl,rfl,rfl,rfl,rfl,rfl,rfl,rfl,rfl,rfl,rfl,rfl,rfl,rfl,rfl,rfl,rfl,rfl,rfl,rfl,rfl⟩
set_option maxRecDepth 100000 in
theorem aey:cf.sz 103=1/\cf.ty 104 = .plain/\cf.sz 104=1/\cf.ty 105 = .plain/\cf.sz 105=1/\cf.ty 107 = .plain/\cf.sz 107=1/\cf.ty 108 = .plain/\cf.sz 108=1/\cf.ty 109 = .plain/\cf.sz 109=1/\cf.ty 110 = .plain/\cf.sz 110=1/\cf.ty 111 = .plain/\cf.sz 111=1/\cf.ty 112 = .plain/\cf.sz 112=1/\cf.ty 113=(.struct [(0,24)])/\cf.sz 113=1/\cf.bytes 113=24/\cf.zero 113=[(.slice none 0 0)]/\cf.ty 114=(.struct [(0,24)])/\cf.sz 114=1/\cf.bytes 114=24/\cf.zero 114=[(.slice none 0 0)]/\cf.ty 115 = .plain/\cf.sz 115=1/\cf.ty 116 = .plain/\cf.sz 116=1/\cf.ty 117 = .plain/\cf.sz 117=1/\cf.ty 118 = .plain/\cf.sz 118=1/\cf.ty 119 = .plain/\cf.sz 119=1/\cf.ty 120 = .plain/\cf.sz 120=1/\cf.ty 121 = .plain/\cf.sz 121=1/\cf.ty 123 = .plain/\cf.sz 123=1/\cf.ty 124 = .plain/\cf.sz 124=1/\cf.ty 125 = .plain/\cf.sz 125=1/\cf.ty 126 = .plain/\cf.sz 126=1/\cf.ty 127 = .plain/\cf.sz 127=1/\cf.ty 128 = .plain/\cf.sz 128=1:=⟨rfl,rfl,rfl,rfl,rfl,rfl,rfl,rfl,rfl,rfl,rfl,rfl,rfl,rfl,rfl,rfl,rfl,rfl,rfl,rfl,rfl,rfl,rfl,rfl,rfl,rfl,rfl,rfl,rfl,rfl,rfl,rfl,rfl,rfl,rfl,rfl,rfl,rfl,rfl,rfl,rfl,rfl,rfl,rfl,rfl,rfl,rfl,rfl,rfl,rfl,rfl⟩
set_option maxRecDepth 100000 in
theorem aez:cf.ty 129=(.slice 24)/\cf.sz 129=1/\cf.bytes 129=24/\cf.zero 129=[(.slice none 0 0)]/\cf.ty 130 = .plain/\cf.sz 130=1/\cf.ty 131=(.slice 179)/\cf.sz 131=1/\cf.bytes 131=24/\cf.zero 131=[(.slice none 0 0)]/\cf.ty 132=(.struct [(0,57),(1,131),(2,4)])/\cf.sz 132=3/\cf.bytes 132=56/\cf.zero 132=[(.slice none 0 0),(.slice none 0 0),(.bool false)]/\cf.ty 133=(.struct [(0,57),(1,131),(2,4)])/\cf.sz 133=3/\cf.bytes 133=56/\cf.zero 133=[(.slice none 0 0),(.slice none 0 0),(.bool false)]/\cf.ty 134 = .plain/\cf.sz 134=1/\cf.ty 135 = .plain/\cf.sz 135=1/\cf.ty 136 = .plain/\cf.sz 136=1/\cf.ty 137 = .plain/\cf.sz 137=1/\cf.ty 138 = .plain/\cf.sz 138=1/\cf.ty 139 = .plain/\cf.sz 139=1/\cf.ty 140 = .plain/\cf.sz 140=1/\cf.ty 141 = .plain/\cf.sz 141=1/\cf.ty 142 = .plain/\cf.sz 142=1/\cf.ty 144 = .plain/\cf.sz 144=1/\cf.ty 145=(.arr 2 3)/\cf.sz 145=2/\cf.bytes 145=16/\cf.zero 145=[(.int .i64 0),(.int .i64 0)]/\cf.ty 146 = .plain/\cf.sz 146=1/\cf.ty 147 = .plain/\cf.sz 147=1/\cf.ty 148 = .plain/\cf.sz 148=1/\cf.ty 149 = .plain/\cf.sz 149=1/\cf.ty 150 = .plain:=⟨rfl,rfl,rfl,rfl,rfl,rfl,rfl,rfl,rfl,rfl,rfl,rfl,rfl,rfl,rfl,rfl,rfl,rfl,rfl,rfl,rfl,rfl,rfl,rfl,rfl,rfl,rfl,rfl,rfl,rfl,rfl,rfl,rfl,rfl,rfl,rfl,rfl,rfl,rfl,rfl,rfl,rfl,rfl,rfl,rfl,rfl,rfl,rfl,rfl,rfl,rfl⟩
set_option maxRecDepth 100000 in
theorem aeA:cf.sz 150=1/\cf.ty 151 = .plain/\cf.sz 151=1/\cf.ty 152=(.slice 154)/\cf.sz 152=1/\cf.bytes 152=24/\cf.zero 152=[(.slice none 0 0)]/\cf.ty 153=(.struct [(0,3),(1,3),(2,3),(3,3)])/\cf.sz 153=4/\cf.bytes 153=32/\cf.zero 153=[(.int .i64 0),(.int .i64 0),(.int .i64 0),(.int .i64 0)]/\cf.ty 154=(.struct [(0,3),(1,3),(2,3),(3,3)])/\cf.sz 154=4/\cf.bytes 154=32/\cf.zero 154=[(.int .i64 0),(.int .i64 0),(.int .i64 0),(.int .i64 0)]/\cf.ty 155 = .plain/\cf.sz 155=1/\cf.ty 156 = .plain/\cf.sz 156=1/\cf.ty 157 = .plain/\cf.sz 157=1/\cf.ty 158 = .plain/\cf.sz 158=1/\cf.ty 159 = .plain/\cf.sz 159=1/\cf.ty 160=(.slice 192)/\cf.sz 160=1/\cf.bytes 160=24/\cf.zero 160=[(.slice none 0 0)]/\cf.ty 161 = .plain/\cf.sz 161=1/\cf.ty 162 = .plain/\cf.sz 162=1/\cf.ty 163 = .plain/\cf.sz 163=1/\cf.ty 164 = .plain/\cf.sz 164=1/\cf.ty 165 = .plain/\cf.sz 165=1/\cf.ty 166 = .plain/\cf.sz 166=1/\cf.ty 167 = .plain/\cf.sz 167=1/\cf.ty 168 = .plain/\cf.sz 168=1/\cf.ty 169 = .plain/\cf.sz 169=1/\cf.ty 170=(.slice 86)/\cf.sz 170=1/\cf.bytes 170=24/\cf.zero 170=[(.slice none 0 0)]:=⟨rfl,rfl,rfl,rfl,rfl,rfl,rfl,rfl,rfl,rfl,rfl,rfl,rfl,rfl,rfl,rfl,rfl,rfl,rfl,rfl,rfl,rfl,rfl,rfl,rfl,rfl,rfl,rfl,rfl,rfl,rfl,rfl,rfl,rfl,rfl,rfl,rfl,rfl,rfl,rfl,rfl,rfl,rfl,rfl,rfl,rfl,rfl,rfl,rfl,rfl,rfl⟩
set_option maxRecDepth 100000 in
theorem aeB:cf.ty 171=(.struct [(0,57),(1,170),(2,3)])/\cf.sz 171=3/\cf.bytes 171=56/\cf.zero 171=[(.slice none 0 0),(.slice none 0 0),(.int .i64 0)]/\cf.ty 172=(.struct [(0,57),(1,170),(2,3)])/\cf.sz 172=3/\cf.bytes 172=56/\cf.zero 172=[(.slice none 0 0),(.slice none 0 0),(.int .i64 0)]/\cf.ty 174 = .plain/\cf.sz 174=1/\cf.ty 175 = .plain/\cf.sz 175=1/\cf.ty 176=(.struct [(0,24),(1,24),(2,24),(3,4)])/\cf.sz 176=4/\cf.bytes 176=80/\cf.zero 176=[(.slice none 0 0),(.slice none 0 0),(.slice none 0 0),(.bool false)]/\cf.ty 177=(.struct [(0,24),(1,24),(2,24),(3,4)])/\cf.sz 177=4/\cf.bytes 177=80/\cf.zero 177=[(.slice none 0 0),(.slice none 0 0),(.slice none 0 0),(.bool false)]/\cf.ty 178 = .plain/\cf.sz 178=1/\cf.ty 179=(.slice 181)/\cf.sz 179=1/\cf.bytes 179=24/\cf.zero 179=[(.slice none 0 0)]/\cf.ty 180=(.struct [(0,3),(1,3),(2,3)])/\cf.sz 180=3/\cf.bytes 180=24/\cf.zero 180=[(.int .i64 0),(.int .i64 0),(.int .i64 0)]/\cf.ty 181=(.struct [(0,3),(1,3),(2,3)])/\cf.sz 181=3/\cf.bytes 181=24/\cf.zero 181=[(.int .i64 0),(.int .i64 0),(.int .i64 0)]/\cf.ty 182=(.struct [(0,29),(1,29),(2,3)])/\cf.sz 182=3/\cf.bytes 182=56/\cf.zero 182=[(.slice none 0 0),(.slice none 0 0),(.int .i64 0)]/\cf.ty 183=(.struct [(0,29),(1,29),(2,3)])/\cf.sz 183=3/\cf.bytes 183=56/\cf.zero 183=[(.slice none 0 0),(.slice none 0 0),(.int .i64 0)]/\cf.ty 184 = .plain/\cf.sz 184=1/\cf.ty 186 = .plain/\cf.sz 186=1/\cf.ty 187 = .plain/\cf.sz 187=1/\cf.ty 188 = .plain/\cf.sz 188=1/\cf.ty 189 = .plain:=⟨rfl,rfl,rfl,rfl,rfl,rfl,rfl,rfl,rfl,rfl,rfl,rfl,rfl,rfl,rfl,rfl,rfl,rfl,rfl,rfl,rfl,rfl,rfl,rfl,rfl,rfl,rfl,rfl,rfl,rfl,rfl,rfl,rfl,rfl,rfl,rfl,rfl,rfl,rfl,rfl,rfl,rfl,rfl,rfl,rfl,rfl,rfl,rfl,rfl,rfl,rfl⟩
set_option maxRecDepth 100000 in
theorem Zc:cf.sz 189=1/\cf.ty 190 = .plain/\cf.sz 190=1/\cf.ty 191 = .plain/\cf.sz 191=1/\cf.ty 192=(.slice 4)/\cf.sz 192=1/\cf.bytes 192=24/\cf.zero 192=[(.slice none 0 0)]/\cf.ty 193=(.slice 197)/\cf.sz 193=1/\cf.bytes 193=24/\cf.zero 193=[(.slice none 0 0)]/\cf.ty 194=(.struct [(0,192),(1,193)])/\cf.sz 194=2/\cf.bytes 194=48/\cf.zero 194=[(.slice none 0 0),(.slice none 0 0)]/\cf.ty 195=(.struct [(0,192),(1,193)])/\cf.sz 195=2/\cf.bytes 195=48/\cf.zero 195=[(.slice none 0 0),(.slice none 0 0)]/\cf.ty 196 = .plain/\cf.sz 196=1/\cf.ty 197=(.slice 199)/\cf.sz 197=1/\cf.bytes 197=24/\cf.zero 197=[(.slice none 0 0)]/\cf.ty 198=(.struct [(0,3),(1,3)])/\cf.sz 198=2/\cf.bytes 198=16/\cf.zero 198=[(.int .i64 0),(.int .i64 0)]/\cf.ty 199=(.struct [(0,3),(1,3)])/\cf.sz 199=2/\cf.bytes 199=16/\cf.zero 199=[(.int .i64 0),(.int .i64 0)]/\cf.ty 200 = .plain/\cf.sz 200=1/\cf.ty 201 = .plain/\cf.sz 201=1/\cf.ty 202 = .plain/\cf.sz 202=1/\cf.ty 203 = .plain/\cf.sz 203=1/\cf.ty 204 = .plain/\cf.sz 204=1/\cf.ty 205 = .plain/\cf.sz 205=1/\cf.ty 206 = .plain/\cf.sz 206=1/\cf.ty 207 = .plain/\cf.sz 207=1:=⟨rfl,rfl,rfl,rfl,rfl,rfl,rfl,rfl,rfl,rfl,rfl,rfl,rfl,rfl,rfl,rfl,rfl,rfl,rfl,rfl,rfl,rfl,rfl,rfl,rfl,rfl,rfl,rfl,rfl,rfl,rfl,rfl,rfl,rfl,rfl,rfl,rfl,rfl,rfl,rfl,rfl,rfl,rfl,rfl,rfl,rfl,rfl,rfl,rfl,rfl,rfl⟩
set_option maxRecDepth 100000 in
theorem Zd:cf.ty 208 = .plain/\cf.sz 208=1/\cf.ty 209 = .plain/\cf.sz 209=1/\cf.ty 210 = .plain/\cf.sz 210=1/\cf.ty 211 = .plain/\cf.sz 211=1/\cf.ty 212 = .plain/\cf.sz 212=1/\cf.ty 213 = .plain/\cf.sz 213=1/\cf.ty 214 = .plain/\cf.sz 214=1/\cf.ty 215 = .plain/\cf.sz 215=1/\cf.ty 216 = .plain/\cf.sz 216=1/\cf.bytes 216=8/\cf.zero 216=[(.int .u64 0)]/\cf.ty 218 = .plain/\cf.sz 218=1/\cf.ty 219 = .plain/\cf.sz 219=1/\cf.ty 220=(.slice 222)/\cf.sz 220=1/\cf.bytes 220=24/\cf.zero 220=[(.slice none 0 0)]/\cf.ty 221=(.struct [(0,4),(1,3),(2,3)])/\cf.sz 221=3/\cf.bytes 221=24/\cf.zero 221=[(.bool false),(.int .i64 0),(.int .i64 0)]/\cf.ty 222=(.struct [(0,4),(1,3),(2,3)])/\cf.sz 222=3/\cf.bytes 222=24/\cf.zero 222=[(.bool false),(.int .i64 0),(.int .i64 0)]/\cf.ty 223 = .plain/\cf.sz 223=1/\cf.ty 224 = .plain/\cf.sz 224=1/\cf.bytes 224=4/\cf.zero 224=[(.int .u32 0)]/\cf.ty 226 = .plain/\cf.sz 226=1/\cf.ty 228 = .plain/\cf.sz 228=1/\cf.ty 229 = .plain/\cf.sz 229=1/\cf.ty 230 = .plain/\cf.sz 230=1/\cf.ty 231=(.struct [(0,17),(1,17),(2,17),(3,9)]):=⟨rfl,rfl,rfl,rfl,rfl,rfl,rfl,rfl,rfl,rfl,rfl,rfl,rfl,rfl,rfl,rfl,rfl,rfl,rfl,rfl,rfl,rfl,rfl,rfl,rfl,rfl,rfl,rfl,rfl,rfl,rfl,rfl,rfl,rfl,rfl,rfl,rfl,rfl,rfl,rfl,rfl,rfl,rfl,rfl,rfl,rfl,rfl,rfl,rfl,rfl,rfl⟩
set_option maxRecDepth 100000 in
theorem Ze:cf.sz 231=4/\cf.bytes 231=40/\cf.zero 231=[(.pointer none),(.pointer none),(.pointer none),(.string ⟨#[]⟩)]/\cf.ty 232=(.struct [(0,17),(1,17),(2,17),(3,9)])/\cf.sz 232=4/\cf.bytes 232=40/\cf.zero 232=[(.pointer none),(.pointer none),(.pointer none),(.string ⟨#[]⟩)]/\cf.ty 236 = .plain/\cf.sz 236=1/\cf.bytes 236=1/\cf.zero 236=[(.int .u8 0)]/\cf.ty 237 = .plain/\cf.sz 237=1/\cf.bytes 237=1/\cf.zero 237=[(.int .u8 0)]/\cf.ty 238 = .plain/\cf.sz 238=1/\cf.ty 239 = .plain/\cf.sz 239=1/\cf.ty 240 = .plain/\cf.sz 240=1/\cf.bytes 240=4/\cf.zero 240=[(.int .i32 0)]/\cf.ty 241 = .plain/\cf.sz 241=1/\cf.bytes 241=4/\cf.zero 241=[(.int .i32 0)]/\cf.ty 242=(.struct [(0,12),(1,12),(2,224),(3,236),(4,5),(5,5),(6,237),(7,238),(8,239),(9,240),(10,241)])/\cf.sz 242=11/\cf.bytes 242=48/\cf.zero 242=[(.int .u64 0),(.int .u64 0),(.int .u32 0),(.int .u8 0),(.int .u8 0),(.int .u8 0),(.int .u8 0),(.nilFunc),(.pointer none),(.int .i32 0),(.int .i32 0)]/\cf.ty 243=(.struct [(0,12),(1,12),(2,224),(3,236),(4,5),(5,5),(6,237),(7,238),(8,239),(9,240),(10,241)])/\cf.sz 243=11/\cf.bytes 243=48/\cf.zero 243=[(.int .u64 0),(.int .u64 0),(.int .u32 0),(.int .u8 0),(.int .u8 0),(.int .u8 0),(.int .u8 0),(.nilFunc),(.pointer none),(.int .i32 0),(.int .i32 0)]/\cf.eqa 145=true/\cf.eqs 27=true/\cf.eqs 28=true/\cf.eqs 95=true/\cf.eqs 96=true/\cf.eqs 198=true/\cf.eqs 199=true:=⟨rfl,rfl,rfl,rfl,rfl,rfl,rfl,rfl,rfl,rfl,rfl,rfl,rfl,rfl,rfl,rfl,rfl,rfl,rfl,rfl,rfl,rfl,rfl,rfl,rfl,rfl,rfl,rfl,rfl,rfl,rfl,rfl,rfl,rfl,rfl,rfl,rfl,rfl,rfl,rfl,rfl,rfl⟩
theorem xr1:type_of% (⟨@sW.eq_1,@sW.eq_2,@stepW.eq_1,@uj.eq_1,@Vy.eq_1,@Rf.eq_1,@guardOf.eq_1,@qev.eq_1,@qev.eq_2,@qev.eq_3,@qev.eq_4,@qev.eq_5,@qev.eq_6,@qev.eq_7,@qev.eq_8,@LG,@qev.eq_12,@qev.eq_13,@yS,@qev.eq_16,@qev.eq_17,@qev.eq_18,@qev.eq_19,@mY.eq_1,@mY.eq_2,@Cn.part.eq_1,@Cn.part.eq_2,@Cn.part.eq_3,@Cn.part.eq_4,@Cn.part.eq_5⟩:_/\_/\_/\_/\_/\_/\_/\_/\_/\_/\_/\_/\_/\_/\_/\_/\_/\_/\_/\_/\_/\_/\_/\_/\_/\_/\_/\_/\_/\_):=⟨@sW.eq_1,@sW.eq_2,@stepW.eq_1,@uj.eq_1,@Vy.eq_1,@Rf.eq_1,@guardOf.eq_1,@qev.eq_1,@qev.eq_2,@qev.eq_3,@qev.eq_4,@qev.eq_5,@qev.eq_6,@qev.eq_7,@qev.eq_8,@LG,@qev.eq_12,@qev.eq_13,@yS,@qev.eq_16,@qev.eq_17,@qev.eq_18,@qev.eq_19,@mY.eq_1,@mY.eq_2,@Cn.part.eq_1,@Cn.part.eq_2,@Cn.part.eq_3,@Cn.part.eq_4,@Cn.part.eq_5⟩
theorem xr2:type_of% (⟨@Cn.part.eq_6,@Cn.part.eq_7,@Cn.part.eq_8,@Cn.part.eq_9,@Cn.part.eq_10,@Zf,@Zg,@Zh,@arith.eq_1,@arith.eq_2,@arith.eq_3,@arith.eq_4,@arith.eq_5,@arith.eq_6,@arith.eq_7,@arith.eq_8,@arith.eq_9,@arith.eq_10,@arith.eq_11,@arith.eq_12,@arith.eq_13,@arith.eq_14,@arith.eq_15,@arith.eq_16,@adr.eq_1,@adr.eq_2,@adr.eq_3,@adr.eq_4,@adr.eq_5,@step1.eq_1⟩:_/\_/\_/\_/\_/\_/\_/\_/\_/\_/\_/\_/\_/\_/\_/\_/\_/\_/\_/\_/\_/\_/\_/\_/\_/\_/\_/\_/\_/\_):=⟨@Cn.part.eq_6,@Cn.part.eq_7,@Cn.part.eq_8,@Cn.part.eq_9,@Cn.part.eq_10,@Zf,@Zg,@Zh,@arith.eq_1,@arith.eq_2,@arith.eq_3,@arith.eq_4,@arith.eq_5,@arith.eq_6,@arith.eq_7,@arith.eq_8,@arith.eq_9,@arith.eq_10,@arith.eq_11,@arith.eq_12,@arith.eq_13,@arith.eq_14,@arith.eq_15,@arith.eq_16,@adr.eq_1,@adr.eq_2,@adr.eq_3,@adr.eq_4,@adr.eq_5,@step1.eq_1⟩
theorem xr3:type_of% (⟨@step1.eq_2,@step1.eq_3,@step1.eq_4,@step1.eq_5,@lenOf.eq_1,@lenOf.eq_2,@lenOf.eq_3,@lenOf.eq_4,@lenOf.eq_5,@params.eq_1,@params.eq_2,@QB,@LD,@La,@Em,@GR,@uo,@Q9,@Option.all_some.{0},@Option.all_none.{0},@yB,@GH,@AV.map.eq_1,@AV.map.eq_2,@AV.map.eq_3,@TV.map.eq_1,@TV.map.eq_2,@Lf.kill.eq_1,@Lf.kill.eq_2,@Lf.kill.eq_3⟩:_/\_/\_/\_/\_/\_/\_/\_/\_/\_/\_/\_/\_/\_/\_/\_/\_/\_/\_/\_/\_/\_/\_/\_/\_/\_/\_/\_/\_/\_):=⟨@step1.eq_2,@step1.eq_3,@step1.eq_4,@step1.eq_5,@lenOf.eq_1,@lenOf.eq_2,@lenOf.eq_3,@lenOf.eq_4,@lenOf.eq_5,@params.eq_1,@params.eq_2,@QB,@LD,@La,@Em,@GR,@uo,@Q9,@Option.all_some.{0},@Option.all_none.{0},@yB,@GH,@AV.map.eq_1,@AV.map.eq_2,@AV.map.eq_3,@TV.map.eq_1,@TV.map.eq_2,@Lf.kill.eq_1,@Lf.kill.eq_2,@Lf.kill.eq_3⟩
theorem xr4:type_of% (⟨@Lf.kill.eq_4,@Ob.map.eq_1,@Ob.map.eq_2,@Ob.map.eq_3,@oL,@kZ,@kY,@Nat.beq_refl,@oM,@lg,@zeros.eq_1,@jg.eq_1,@jg.eq_2,@jg.eq_3,@jg.eq_4,@emp.eq_1,@Cn.put.eq_1,@Cn.put.eq_2,@Cn.put.eq_3,@Cn.put.eq_4,@Cn.put.eq_5,@Cn.put.eq_6,@Cn.put.eq_7,@Cn.put.eq_8,@Cn.put.eq_9,@Cn.put.eq_10,@Cn.put.eq_11,@Cn.app.eq_1,@Cn.app.eq_2,@Cn.app.eq_3⟩:_/\_/\_/\_/\_/\_/\_/\_/\_/\_/\_/\_/\_/\_/\_/\_/\_/\_/\_/\_/\_/\_/\_/\_/\_/\_/\_/\_/\_/\_):=⟨@Lf.kill.eq_4,@Ob.map.eq_1,@Ob.map.eq_2,@Ob.map.eq_3,@oL,@kZ,@kY,@Nat.beq_refl,@oM,@lg,@zeros.eq_1,@jg.eq_1,@jg.eq_2,@jg.eq_3,@jg.eq_4,@emp.eq_1,@Cn.put.eq_1,@Cn.put.eq_2,@Cn.put.eq_3,@Cn.put.eq_4,@Cn.put.eq_5,@Cn.put.eq_6,@Cn.put.eq_7,@Cn.put.eq_8,@Cn.put.eq_9,@Cn.put.eq_10,@Cn.put.eq_11,@Cn.app.eq_1,@Cn.app.eq_2,@Cn.app.eq_3⟩
theorem xr5:type_of% (⟨@Cn.app.eq_4,@Cn.app.eq_5,@Cn.app.eq_6,@Cn.app.eq_7,@Cn.app.eq_8,@Cn.app.eq_9,@content.eq_1,@content.eq_2,@content.eq_3,@intsOf.eq_1,@intsOf.eq_2,@intsOf.eq_3,@mg.eq_1,@mg.eq_2,@mg.eq_3,@mg.eq_4,@mg.eq_5,@mg.eq_6,@mg.eq_7,@mg.eq_8,@mg.eq_9,@mg.eq_10,@tu.eq_1,@tu.eq_2,@tu.eq_3,@uf.eq_1,@nS.eq_1,@xR.eq_1,@TV.cs.eq_1,@TV.cs.eq_2⟩:_/\_/\_/\_/\_/\_/\_/\_/\_/\_/\_/\_/\_/\_/\_/\_/\_/\_/\_/\_/\_/\_/\_/\_/\_/\_/\_/\_/\_/\_):=⟨@Cn.app.eq_4,@Cn.app.eq_5,@Cn.app.eq_6,@Cn.app.eq_7,@Cn.app.eq_8,@Cn.app.eq_9,@content.eq_1,@content.eq_2,@content.eq_3,@intsOf.eq_1,@intsOf.eq_2,@intsOf.eq_3,@mg.eq_1,@mg.eq_2,@mg.eq_3,@mg.eq_4,@mg.eq_5,@mg.eq_6,@mg.eq_7,@mg.eq_8,@mg.eq_9,@mg.eq_10,@tu.eq_1,@tu.eq_2,@tu.eq_3,@uf.eq_1,@nS.eq_1,@xR.eq_1,@TV.cs.eq_1,@TV.cs.eq_2⟩
theorem xr6:type_of% (⟨@TV.dV.eq_1,@splice.eq_1,@splice.eq_2,@splice.eq_3,@splice.eq_4,@Lf.dV.eq_1,@Lf.dV.eq_2,@Lf.dV.eq_3,@Lf.dV.eq_4,@Lf.dV.eq_5,@Lf.dV.eq_6,@Lf.dV.eq_7,@List.foldl_cons.{0,0},@List.foldl_nil.{0,0},@List.all_cons.{0},@List.all_nil.{0},@Po,@true_and,@and_true,@need.eq_1,@cond_true.{1},@cond_false.{1},@og.eq_1,@og.eq_2,@gB.eq_1,@gB.eq_2,@List.getElem?_toArray.{0},@List.getElem?_cons_succ.{0},@List.getElem?_cons_zero.{0},@Option.bind_some.{0,0}⟩:_/\_/\_/\_/\_/\_/\_/\_/\_/\_/\_/\_/\_/\_/\_/\_/\_/\_/\_/\_/\_/\_/\_/\_/\_/\_/\_/\_/\_/\_):=⟨@TV.dV.eq_1,@splice.eq_1,@splice.eq_2,@splice.eq_3,@splice.eq_4,@Lf.dV.eq_1,@Lf.dV.eq_2,@Lf.dV.eq_3,@Lf.dV.eq_4,@Lf.dV.eq_5,@Lf.dV.eq_6,@Lf.dV.eq_7,@List.foldl_cons.{0,0},@List.foldl_nil.{0,0},@List.all_cons.{0},@List.all_nil.{0},@Po,@true_and,@and_true,@need.eq_1,@cond_true.{1},@cond_false.{1},@og.eq_1,@og.eq_2,@gB.eq_1,@gB.eq_2,@List.getElem?_toArray.{0},@List.getElem?_cons_succ.{0},@List.getElem?_cons_zero.{0},@Option.bind_some.{0,0}⟩
theorem xr7:type_of% (⟨@Option.bind_none.{0,0},@O8,@O7,@Bool.true_and,@Bool.and_true,@Bool.not_not,@Bool.not_eq_false',@cellsOf.eq_1,@cellsOf.eq_2,@cellsOf.eq_3,@cellsOf.eq_4,@cellsOf.eq_5,@cellsOf.eq_6,@cellsOf.eq_7,@cellsOf.eq_8,@rJ.eq_1,@rJ.eq_2,@kX.eq_1,@kX.eq_2,@kX.eq_3,@List.length_nil.{0},@List.length_cons.{0},@List.append_nil.{0},@List.nil_append.{0},@List.cons_append.{0},@List.getElem?_nil.{0},@Ty.agg.eq_1,@Ty.agg.eq_2,@Ty.agg.eq_3,@List.getD_cons_zero.{0}⟩:_/\_/\_/\_/\_/\_/\_/\_/\_/\_/\_/\_/\_/\_/\_/\_/\_/\_/\_/\_/\_/\_/\_/\_/\_/\_/\_/\_/\_/\_):=⟨@Option.bind_none.{0,0},@O8,@O7,@Bool.true_and,@Bool.and_true,@Bool.not_not,@Bool.not_eq_false',@cellsOf.eq_1,@cellsOf.eq_2,@cellsOf.eq_3,@cellsOf.eq_4,@cellsOf.eq_5,@cellsOf.eq_6,@cellsOf.eq_7,@cellsOf.eq_8,@rJ.eq_1,@rJ.eq_2,@kX.eq_1,@kX.eq_2,@kX.eq_3,@List.length_nil.{0},@List.length_cons.{0},@List.append_nil.{0},@List.nil_append.{0},@List.cons_append.{0},@List.getElem?_nil.{0},@Ty.agg.eq_1,@Ty.agg.eq_2,@Ty.agg.eq_3,@List.getD_cons_zero.{0}⟩
theorem xr8:type_of% (⟨@List.getD_cons_succ.{0},@List.getD_nil.{0},@bQ.eq_1,@vF.eq_1,@vF.eq_2,@MP.eq_1,@yj.eq_1,@yj.eq_2,@lG.eq_1,@jE.eq_1,@fU.eq_1,@fU.eq_2,@fU.eq_3,@fU.eq_4,@view.eq_1,@view.eq_2,@view.eq_3,@view.eq_4,@view.eq_5,@qE.eq_1,@qE.eq_2,@qE.eq_3,@J4,@List.mapM_cons.{0,0,0},@List.mapM_nil.{0,0,0},@Option.map_some.{0,0},@Option.some.injEq.{0},@Prod.mk.injEq.{0,0},@exists_and_left.{1},@exists_eq_left'.{1}⟩:_/\_/\_/\_/\_/\_/\_/\_/\_/\_/\_/\_/\_/\_/\_/\_/\_/\_/\_/\_/\_/\_/\_/\_/\_/\_/\_/\_/\_/\_):=⟨@List.getD_cons_succ.{0},@List.getD_nil.{0},@bQ.eq_1,@vF.eq_1,@vF.eq_2,@MP.eq_1,@yj.eq_1,@yj.eq_2,@lG.eq_1,@jE.eq_1,@fU.eq_1,@fU.eq_2,@fU.eq_3,@fU.eq_4,@view.eq_1,@view.eq_2,@view.eq_3,@view.eq_4,@view.eq_5,@qE.eq_1,@qE.eq_2,@qE.eq_3,@J4,@List.mapM_cons.{0,0,0},@List.mapM_nil.{0,0,0},@Option.map_some.{0,0},@Option.some.injEq.{0},@Prod.mk.injEq.{0,0},@exists_and_left.{1},@exists_eq_left'.{1}⟩
theorem xr9:type_of% (⟨@exists_eq_left.{1},@exists_eq_right.{1},@List.map_nil.{0,0},@List.map_cons.{0,0},@List.mem_cons.{0},@List.not_mem_nil.{0},@or_false,@List.range_succ_eq_map,@List.range_zero,@Cn.len.eq_1,@Cn.len.eq_2,@Cn.len.eq_3,@Cn.len.eq_4,@Cn.len.eq_5,@Cn.len.eq_6,@Cn.len.eq_7,@Cn.len.eq_8,@Cn.len.eq_9,@Cn.len.eq_10,@Cn.w.eq_1,@Cn.w.eq_2,@Cn.w.eq_3,@Cn.cell.eq_1,@Cn.cell.eq_2,@Cn.cell.eq_3,@Cn.cell.eq_4,@Cn.cell.eq_5,@Cn.cell.eq_6,@Cn.cell.eq_7,@Cn.cell.eq_8⟩:_/\_/\_/\_/\_/\_/\_/\_/\_/\_/\_/\_/\_/\_/\_/\_/\_/\_/\_/\_/\_/\_/\_/\_/\_/\_/\_/\_/\_/\_):=⟨@exists_eq_left.{1},@exists_eq_right.{1},@List.map_nil.{0,0},@List.map_cons.{0,0},@List.mem_cons.{0},@List.not_mem_nil.{0},@or_false,@List.range_succ_eq_map,@List.range_zero,@Cn.len.eq_1,@Cn.len.eq_2,@Cn.len.eq_3,@Cn.len.eq_4,@Cn.len.eq_5,@Cn.len.eq_6,@Cn.len.eq_7,@Cn.len.eq_8,@Cn.len.eq_9,@Cn.len.eq_10,@Cn.w.eq_1,@Cn.w.eq_2,@Cn.w.eq_3,@Cn.cell.eq_1,@Cn.cell.eq_2,@Cn.cell.eq_3,@Cn.cell.eq_4,@Cn.cell.eq_5,@Cn.cell.eq_6,@Cn.cell.eq_7,@Cn.cell.eq_8⟩
theorem aeD:type_of% (⟨@Cn.cell.eq_9,@Cn.cell.eq_10,@Option.pure_def.{0},@Option.bind_eq_bind.{0},@and_assoc,@dR.eq_1,@dR.eq_2,@Uz.eq_1,@uN,@yx,@Int.toNat_natCast,@Int.toNat_zero,@false_and,@and_false,@exists_false.{1},@false_or,@List.set_cons_zero.{0},@List.set_cons_succ.{0},@List.set_nil.{0},@forall_const.{0},@forall_const.{1},@exists_const.{1},@implies_true.{0},@implies_true.{1},@imp_self,@false_implies,@forall_eq.{1},@forall_eq_or_imp.{1},@Ob.cn.eq_1,@Ob.cn.eq_2⟩:_/\_/\_/\_/\_/\_/\_/\_/\_/\_/\_/\_/\_/\_/\_/\_/\_/\_/\_/\_/\_/\_/\_/\_/\_/\_/\_/\_/\_/\_):=⟨@Cn.cell.eq_9,@Cn.cell.eq_10,@Option.pure_def.{0},@Option.bind_eq_bind.{0},@and_assoc,@dR.eq_1,@dR.eq_2,@Uz.eq_1,@uN,@yx,@Int.toNat_natCast,@Int.toNat_zero,@false_and,@and_false,@exists_false.{1},@false_or,@List.set_cons_zero.{0},@List.set_cons_succ.{0},@List.set_nil.{0},@forall_const.{0},@forall_const.{1},@exists_const.{1},@implies_true.{0},@implies_true.{1},@imp_self,@false_implies,@forall_eq.{1},@forall_eq_or_imp.{1},@Ob.cn.eq_1,@Ob.cn.eq_2⟩
theorem aeE:type_of% (⟨@Ob.cn.eq_3,@Ob.cn.eq_4,@Ob.cn.eq_5,@Ob.pI.eq_1,@Ob.pI.eq_2,@Ob.pI.eq_3,@Ob.pI.eq_4,@Ob.pI.eq_5,@Cn.qA.eq_1,@Cn.qA.eq_2,@Cn.qA.eq_3,@Cn.qA.eq_4,@Cn.qA.eq_5,@Cn.wrap.eq_1,@Cn.wrap.eq_2,@Cn.wrap.eq_3,@Cn.wrap.eq_4,@Cn.wrap.eq_5,@Cn.sub.eq_1,@Cn.sub.eq_2,@Cn.sub.eq_3,@Cn.sub.eq_4,@Cn.sub.eq_5,@Cn.deep.eq_1,@Cn.deep.eq_2,@Cn.deep.eq_3,@Cn.deep.eq_4,@Cn.deep.eq_5,@Cn.deep.eq_6,@Cn.deep.eq_7⟩:_/\_/\_/\_/\_/\_/\_/\_/\_/\_/\_/\_/\_/\_/\_/\_/\_/\_/\_/\_/\_/\_/\_/\_/\_/\_/\_/\_/\_/\_):=⟨@Ob.cn.eq_3,@Ob.cn.eq_4,@Ob.cn.eq_5,@Ob.pI.eq_1,@Ob.pI.eq_2,@Ob.pI.eq_3,@Ob.pI.eq_4,@Ob.pI.eq_5,@Cn.qA.eq_1,@Cn.qA.eq_2,@Cn.qA.eq_3,@Cn.qA.eq_4,@Cn.qA.eq_5,@Cn.wrap.eq_1,@Cn.wrap.eq_2,@Cn.wrap.eq_3,@Cn.wrap.eq_4,@Cn.wrap.eq_5,@Cn.sub.eq_1,@Cn.sub.eq_2,@Cn.sub.eq_3,@Cn.sub.eq_4,@Cn.sub.eq_5,@Cn.deep.eq_1,@Cn.deep.eq_2,@Cn.deep.eq_3,@Cn.deep.eq_4,@Cn.deep.eq_5,@Cn.deep.eq_6,@Cn.deep.eq_7⟩
theorem aeF:type_of% (⟨@Cn.deep.eq_8,@Cn.deep.eq_9,@Cn.deep.eq_10,@levels.eq_1,@sWo.eq_1,@sWo.eq_2,@sWo.eq_3,@sWo.eq_4,@QZ.eq_1,@Vx.eq_1,@dFr.eq_1,@dFr.eq_2,@dFr.eq_3,@Ua,@JW,@VG,@VH,@oZ.eq_1,@KC,@flat_1,@flat_2,@flat_3,@flat_4,@flat_5,@flat_6,@flat_7,@flat_8,@flat_9,@flat_10,@Lf.fA.eq_1⟩:_/\_/\_/\_/\_/\_/\_/\_/\_/\_/\_/\_/\_/\_/\_/\_/\_/\_/\_/\_/\_/\_/\_/\_/\_/\_/\_/\_/\_/\_):=⟨@Cn.deep.eq_8,@Cn.deep.eq_9,@Cn.deep.eq_10,@levels.eq_1,@sWo.eq_1,@sWo.eq_2,@sWo.eq_3,@sWo.eq_4,@QZ.eq_1,@Vx.eq_1,@dFr.eq_1,@dFr.eq_2,@dFr.eq_3,@Ua,@JW,@VG,@VH,@oZ.eq_1,@KC,@flat_1,@flat_2,@flat_3,@flat_4,@flat_5,@flat_6,@flat_7,@flat_8,@flat_9,@flat_10,@Lf.fA.eq_1⟩
theorem aeG:type_of% (⟨@Lf.fA.eq_2,@Lf.fA.eq_3,@Lf.ren.eq_1,@Lf.ren.eq_2,@Lf.ren.eq_3,@cZ.eq_1,@plug.eq_1,@plug.eq_2,@lost.eq_1,@lost.eq_2,@lost.eq_3,@dM.eq_1,@dM.eq_2,@LM.eq_1,@bU.eq_1,@bU.eq_2,@bU.eq_3,@bU.eq_4,@bU.eq_5,@bU.eq_6,@bU.eq_7,@bU.eq_8,@bU.eq_9,@bU.eq_10,@bU.eq_11,@bU.eq_12,@bU.eq_13,@bU.eq_14,@bU.eq_15,@jr.eq_1⟩:_/\_/\_/\_/\_/\_/\_/\_/\_/\_/\_/\_/\_/\_/\_/\_/\_/\_/\_/\_/\_/\_/\_/\_/\_/\_/\_/\_/\_/\_):=⟨@Lf.fA.eq_2,@Lf.fA.eq_3,@Lf.ren.eq_1,@Lf.ren.eq_2,@Lf.ren.eq_3,@cZ.eq_1,@plug.eq_1,@plug.eq_2,@lost.eq_1,@lost.eq_2,@lost.eq_3,@dM.eq_1,@dM.eq_2,@LM.eq_1,@bU.eq_1,@bU.eq_2,@bU.eq_3,@bU.eq_4,@bU.eq_5,@bU.eq_6,@bU.eq_7,@bU.eq_8,@bU.eq_9,@bU.eq_10,@bU.eq_11,@bU.eq_12,@bU.eq_13,@bU.eq_14,@bU.eq_15,@jr.eq_1⟩
theorem aeH:type_of% (⟨@bW.eq_1,@bW.eq_2,@bW.eq_3,@Sv.eq_1,@qX.eq_1,@AV.leaves.eq_1,@AV.leaves.eq_2,@AV.leaves.eq_3,@TV.leaves.eq_1,@TV.leaves.eq_2,@Zb,@QF,@WM,@WL,@Y9,@Qu,@V5,@V6,@V3,@Qi,@GI,@KJ,@KI,@decide_true,@List.contains_cons.{0},@List.contains_nil.{0},@Bool.false_or,@Bool.true_or,@Bool.or_true,@Bool.or_false⟩:_/\_/\_/\_/\_/\_/\_/\_/\_/\_/\_/\_/\_/\_/\_/\_/\_/\_/\_/\_/\_/\_/\_/\_/\_/\_/\_/\_/\_/\_):=⟨@bW.eq_1,@bW.eq_2,@bW.eq_3,@Sv.eq_1,@qX.eq_1,@AV.leaves.eq_1,@AV.leaves.eq_2,@AV.leaves.eq_3,@TV.leaves.eq_1,@TV.leaves.eq_2,@Zb,@QF,@WM,@WL,@Y9,@Qu,@V5,@V6,@V3,@Qi,@GI,@KJ,@KI,@decide_true,@List.contains_cons.{0},@List.contains_nil.{0},@Bool.false_or,@Bool.true_or,@Bool.or_true,@Bool.or_false⟩
theorem aeI:type_of% (⟨@Bool.false_and,@Bool.and_false,@Bool.not_false,@Bool.not_true,@YR,@List.take_succ_cons.{0},@List.take_zero.{0},@List.take_nil.{0},@List.length_map.{0,0},@List.length_range,@List.length_set.{0},@List.length_replicate.{0}⟩:_/\_/\_/\_/\_/\_/\_/\_/\_/\_/\_/\_):=⟨@Bool.false_and,@Bool.and_false,@Bool.not_false,@Bool.not_true,@YR,@List.take_succ_cons.{0},@List.take_zero.{0},@List.take_nil.{0},@List.length_map.{0,0},@List.length_range,@List.length_set.{0},@List.length_replicate.{0}⟩
theorem xty:type_of% (⟨aes,aeu,aev,aew,aex,aey,aez,aeA,aeB,Zc,Zd,Ze⟩:_/\_/\_/\_/\_/\_/\_/\_/\_/\_/\_/\_):=⟨aes,aeu,aev,aew,aex,aey,aez,aeA,aeB,Zc,Zd,Ze⟩
theorem xr:type_of% (⟨xr1,xr2,xr3,xr4,xr5,xr6,xr7,xr8,xr9,aeD,aeE,aeF,aeG,aeH,aeI,xty⟩:_/\_/\_/\_/\_/\_/\_/\_/\_/\_/\_/\_/\_/\_/\_/\_):=⟨xr1,xr2,xr3,xr4,xr5,xr6,xr7,xr8,xr9,aeD,aeE,aeF,aeG,aeH,aeI,xty⟩
theorem xq:type_of% (⟨@og.eq_1,@og.eq_2,@gB.eq_1,@gB.eq_2⟩:_/\_/\_/\_):=⟨@og.eq_1,@og.eq_2,@gB.eq_1,@gB.eq_2⟩
theorem uU (cf:Cfg) (X:St) (xs:List ResultVar) (r:AV):EU cf X xs r=match xs with
  | [x]=>∃ v,nT cf X x v/\(AV.tv v).free=true/\Imp (.tv v) r
  | _=>∃ vs,iU cf X xs vs/\(AV.tup vs).free=true/\Imp (.tup vs) r:=rfl
theorem QG (cf:Cfg) (X:St) (xs:List ResultVar) (fx:List Bool) (n:Nat) (r:AV) (Hout:List Ob):Ot cf X xs fx n r Hout=∃ τ:List Nat,τ.Nodup/\picks X.H (fun k=>τ.getD k 0) τ Hout/\n<=τ.length/\(∀ k,k<fx.length->fx.getD k false=true->τ.getD k 0=k)/\(∀ o∈Hout,o.lt Hout.length)/\r.lt Hout.length /\
 (match xs with
 | [x]=>∃ v,nT cf X x v/\AV.tv v=r.map (Lf.ren fun k=>τ.getD k 0)
 | _=>∃ vs,iU cf X xs vs/\AV.tup vs=r.map (Lf.ren fun k=>τ.getD k 0)):=rfl
theorem aB (p:Prop):ends .normal p=p:=rfl
theorem aH (p:Prop):ends .ret p=p:=rfl
theorem xe:type_of% (⟨@aB,@aH,@uU,@iU.eq_1,@iU.eq_2,@nT.eq_1,@nT.eq_2,@uo⟩:_/\_/\_/\_/\_/\_/\_/\_):=⟨@aB,@aH,@uU,@iU.eq_1,@iU.eq_2,@nT.eq_1,@nT.eq_2,@uo⟩
theorem xec:type_of% (⟨@aB,@aH,@uU,@iU.eq_1,@iU.eq_2,@nT.eq_1,@nT.eq_2⟩:_/\_/\_/\_/\_/\_/\_):=⟨@aB,@aH,@uU,@iU.eq_1,@iU.eq_2,@nT.eq_1,@nT.eq_2⟩
theorem xh:type_of% (⟨@aB,@aH,@QG⟩:_/\_/\_):=⟨@aB,@aH,@QG⟩
theorem xp:type_of% (⟨@params.eq_1,@params.eq_2,@uo⟩:_/\_/\_):=⟨@params.eq_1,@params.eq_2,@uo⟩
theorem xf:type_of% (⟨@AV.fits.eq_1,@AV.fits.eq_2,@Lf.qL.eq_1,@Lf.qL.eq_2,@Cn.fits.eq_1,@Cn.fits.eq_2,@Cn.fits.eq_3,@Cn.fits.eq_4,@Cn.fits.eq_5,@Cn.fits.eq_6,@Cn.fits.eq_7,@Cn.fits.eq_8,@Cn.fits.eq_9,@Cn.fits.eq_10,@Lf.fits.eq_1,@Lf.fits.eq_2,@uo,@and_true,@lim.eq_1⟩:_/\_/\_/\_/\_/\_/\_/\_/\_/\_/\_/\_/\_/\_/\_/\_/\_/\_/\_):=⟨@AV.fits.eq_1,@AV.fits.eq_2,@Lf.qL.eq_1,@Lf.qL.eq_2,@Cn.fits.eq_1,@Cn.fits.eq_2,@Cn.fits.eq_3,@Cn.fits.eq_4,@Cn.fits.eq_5,@Cn.fits.eq_6,@Cn.fits.eq_7,@Cn.fits.eq_8,@Cn.fits.eq_9,@Cn.fits.eq_10,@Lf.fits.eq_1,@Lf.fits.eq_2,@uo,@and_true,@lim.eq_1⟩
theorem xk:type_of% (⟨@uN,@yx,@List.cons_append.{0},@List.nil_append.{0}⟩:_/\_/\_/\_):=⟨@uN,@yx,@List.cons_append.{0},@List.nil_append.{0}⟩
theorem xz:type_of% (⟨@PZ,@Lf.frz.eq_1,@Lf.frz.eq_2,@Lf.frz.eq_3,@Lf.frz.eq_4,@List.map_cons.{0,0},@List.map_nil.{0,0},@AV.map.eq_1,@AV.map.eq_2,@AV.map.eq_3,@TV.map.eq_1,@TV.map.eq_2,@Ob.map.eq_1,@Ob.map.eq_2,@Ob.map.eq_3,@oL,@kZ,@kY,@cond_true.{1},@cond_false.{1},@List.set_cons_zero.{0},@List.set_cons_succ.{0},@List.set_nil.{0},@Nat.beq_refl,@oM,@lg⟩:_/\_/\_/\_/\_/\_/\_/\_/\_/\_/\_/\_/\_/\_/\_/\_/\_/\_/\_/\_/\_/\_/\_/\_/\_/\_):=⟨@PZ,@Lf.frz.eq_1,@Lf.frz.eq_2,@Lf.frz.eq_3,@Lf.frz.eq_4,@List.map_cons.{0,0},@List.map_nil.{0,0},@AV.map.eq_1,@AV.map.eq_2,@AV.map.eq_3,@TV.map.eq_1,@TV.map.eq_2,@Ob.map.eq_1,@Ob.map.eq_2,@Ob.map.eq_3,@oL,@kZ,@kY,@cond_true.{1},@cond_false.{1},@List.set_cons_zero.{0},@List.set_cons_succ.{0},@List.set_nil.{0},@Nat.beq_refl,@oM,@lg⟩
theorem xm:type_of% (⟨@VR,@Ym,@VT,@Y6,@Y5,@Lf.mv.eq_1,@Lf.mv.eq_2,@Lf.mv.eq_3,@List.map_cons.{0,0},@List.map_nil.{0,0},@AV.map.eq_1,@AV.map.eq_2,@AV.map.eq_3,@TV.map.eq_1,@TV.map.eq_2,@Ob.map.eq_1,@Ob.map.eq_2,@Ob.map.eq_3,@oL,@kZ,@kY,@cond_true.{1},@cond_false.{1},@List.set_cons_zero.{0},@List.set_cons_succ.{0},@List.set_nil.{0},@Nat.beq_refl,@oM,@lg⟩:_/\_/\_/\_/\_/\_/\_/\_/\_/\_/\_/\_/\_/\_/\_/\_/\_/\_/\_/\_/\_/\_/\_/\_/\_/\_/\_/\_/\_):=⟨@VR,@Ym,@VT,@Y6,@Y5,@Lf.mv.eq_1,@Lf.mv.eq_2,@Lf.mv.eq_3,@List.map_cons.{0,0},@List.map_nil.{0,0},@AV.map.eq_1,@AV.map.eq_2,@AV.map.eq_3,@TV.map.eq_1,@TV.map.eq_2,@Ob.map.eq_1,@Ob.map.eq_2,@Ob.map.eq_3,@oL,@kZ,@kY,@cond_true.{1},@cond_false.{1},@List.set_cons_zero.{0},@List.set_cons_succ.{0},@List.set_nil.{0},@Nat.beq_refl,@oM,@lg⟩
theorem xu:type_of% (⟨@yB,@Lf.kill.eq_1,@Lf.kill.eq_2,@Lf.kill.eq_3,@Lf.kill.eq_4,@List.map_cons.{0,0},@List.map_nil.{0,0},@AV.map.eq_1,@AV.map.eq_2,@AV.map.eq_3,@TV.map.eq_1,@TV.map.eq_2,@Ob.map.eq_1,@Ob.map.eq_2,@Ob.map.eq_3,@oL,@kZ,@kY,@cond_true.{1},@cond_false.{1},@List.set_cons_zero.{0},@List.set_cons_succ.{0},@List.set_nil.{0},@Nat.beq_refl,@oM,@lg⟩:_/\_/\_/\_/\_/\_/\_/\_/\_/\_/\_/\_/\_/\_/\_/\_/\_/\_/\_/\_/\_/\_/\_/\_/\_/\_):=⟨@yB,@Lf.kill.eq_1,@Lf.kill.eq_2,@Lf.kill.eq_3,@Lf.kill.eq_4,@List.map_cons.{0,0},@List.map_nil.{0,0},@AV.map.eq_1,@AV.map.eq_2,@AV.map.eq_3,@TV.map.eq_1,@TV.map.eq_2,@Ob.map.eq_1,@Ob.map.eq_2,@Ob.map.eq_3,@oL,@kZ,@kY,@cond_true.{1},@cond_false.{1},@List.set_cons_zero.{0},@List.set_cons_succ.{0},@List.set_nil.{0},@Nat.beq_refl,@oM,@lg⟩
structure Hold (Q:Prop):Prop where
 out:Q
theorem ah {P Q:Prop} (q:Q) (h:Hold Q->P:=by intro h;(repeat (first | refine g1 ?_ | refine g2 ?_ | ((first | refine g3 ?_ | refine g4 ?_ | refine g5 ?_);try simp only [xq,simprocAttr]) | ((first | refine g6 ?_ | refine g7 ?_);simp only [xr,simprocAttr];repeat (guard_target =~ _/\_;refine ⟨by first | with_reducible assumption | (guard_target =~ (_:Int)<=_;omega) | (guard_target =~ (_:Int)<_;omega) | (guard_target =~ (_:Nat)<_;omega) | (guard_target =~ (_:Nat)<=_;omega) | (guard_target =~ (_:Int)=_;omega) | (unfold I64;omega) | trivial | omega | (simp<;>omega) | (intros;omega),?_⟩))));exact h.out):P:=h ⟨q⟩
theorem jd {P Q:Prop} (q:Q) (h:Hold Q->P:=by intro h;(repeat (first | refine g1 ?_ | refine g2 ?_ | ((first | refine g3 ?_ | refine g4 ?_);try simp only [xq,simprocAttr]) | ((first | refine g6 ?_ | refine g7 ?_);simp only [xr,simprocAttr];repeat (guard_target =~ _/\_;refine ⟨by first | with_reducible assumption | (guard_target =~ (_:Int)<=_;omega) | (guard_target =~ (_:Int)<_;omega) | (guard_target =~ (_:Nat)<_;omega) | (guard_target =~ (_:Nat)<=_;omega) | (guard_target =~ (_:Int)=_;omega) | (unfold I64;omega) | trivial | omega | (simp<;>omega) | (intros;omega),?_⟩))));exact h.out):P:=h ⟨q⟩
theorem amB {P Q:Prop} (q:Q) (h:Hold Q->P:=by intro h;((repeat (first | refine g1 ?_ | refine g2 ?_ | ((first | refine g3 ?_ | refine g4 ?_);try simp only [xq,simprocAttr]))));exact h.out):P:=h ⟨q⟩
theorem Ru {P Q:Prop} (q:Q) (h:Hold Q->P:=by intro h;((repeat (first | refine g1 ?_ | refine g2 ?_ | ((first | refine g3 ?_ | refine g4 ?_);try simp only [xq,simprocAttr])));((first | refine g6 ?_ | refine g7 ?_);simp only [xr,simprocAttr];repeat (guard_target =~ _/\_;refine ⟨by first | with_reducible assumption | (guard_target =~ (_:Int)<=_;omega) | (guard_target =~ (_:Int)<_;omega) | (guard_target =~ (_:Nat)<_;omega) | (guard_target =~ (_:Nat)<=_;omega) | (guard_target =~ (_:Int)=_;omega) | (unfold I64;omega) | trivial | omega | (simp<;>omega) | (intros;omega),?_⟩));(repeat (first | refine g1 ?_ | refine g2 ?_ | ((first | refine g3 ?_ | refine g4 ?_);try simp only [xq,simprocAttr]))));exact h.out):P:=h ⟨q⟩
theorem amC {P Q:Prop} (q:Q) (h:Hold Q->P:=by intro h;((try simp only [xr,simprocAttr]);repeat (guard_target =~ _/\_;refine ⟨by first | with_reducible assumption | (guard_target =~ (_:Int)<=_;omega) | (guard_target =~ (_:Int)<_;omega) | (guard_target =~ (_:Nat)<_;omega) | (guard_target =~ (_:Nat)<=_;omega) | (guard_target =~ (_:Int)=_;omega) | (unfold I64;omega) | trivial | omega | (simp<;>omega) | (intros;omega),?_⟩));exact h.out):P:=h ⟨q⟩
theorem amS {P Q:Prop} (q:Q) (h:Hold Q->P:=by intro h;(repeat (guard_target =~ _/\_;refine ⟨by first | with_reducible assumption | (guard_target =~ (_:Int)<=_;omega) | (guard_target =~ (_:Int)<_;omega) | (guard_target =~ (_:Nat)<_;omega) | (guard_target =~ (_:Nat)<=_;omega) | (guard_target =~ (_:Int)=_;omega) | (unfold I64;omega) | trivial | omega | (simp<;>omega) | (intros;omega),?_⟩));exact h.out):P:=h ⟨q⟩
theorem MH {P Q:Prop} (q:Q) (h:Hold Q->P:=by intro h;(repeat (guard_target =~ _/\_;refine ⟨by first | (guard_target =~ _=_;rfl) | (guard_target =~ (_:Int)<=_;omega) | (first | with_reducible assumption | (guard_target =~ (_:Int)<=_;omega) | (guard_target =~ (_:Int)<_;omega) | (guard_target =~ (_:Nat)<_;omega) | (guard_target =~ (_:Nat)<=_;omega) | (guard_target =~ (_:Int)=_;omega) | (unfold I64;omega) | trivial | omega | (simp<;>omega) | (intros;omega)),?_⟩));exact h.out):P:=h ⟨q⟩
theorem amM {P Q:Prop} (q:Q) (h:Hold Q->P:=by intro h;(simp (maxSteps:=3000000) only [xr,simprocAttr];repeat (guard_target =~ _/\_;refine ⟨by first | with_reducible assumption | (guard_target =~ (_:Int)<=_;omega) | (guard_target =~ (_:Int)<_;omega) | (guard_target =~ (_:Nat)<_;omega) | (guard_target =~ (_:Nat)<=_;omega) | (guard_target =~ (_:Int)=_;omega) | (unfold I64;omega) | trivial | omega | (simp<;>omega) | (intros;omega),?_⟩));exact h.out):P:=h ⟨q⟩
theorem amN {P Q:Prop} (q:Q) (h:Hold Q->P:=by intro h;(simp only [xr,simprocAttr];repeat (guard_target =~ _/\_;refine ⟨by first | with_reducible assumption | (guard_target =~ (_:Int)<=_;omega) | (guard_target =~ (_:Int)<_;omega) | (guard_target =~ (_:Nat)<_;omega) | (guard_target =~ (_:Nat)<=_;omega) | (guard_target =~ (_:Int)=_;omega) | (unfold I64;omega) | trivial | omega | (simp<;>omega) | (intros;omega),?_⟩));exact h.out):P:=h ⟨q⟩
theorem bI {P Q:Prop} (q:Q) (h:Hold Q->P:=by intro h;(simp only [xe,simprocAttr];refine ⟨_,rfl,rfl,Imp.eq ?_⟩);exact h.out):P:=h ⟨q⟩
theorem amE {P:Prop} (h:P:=by first | rfl | (simp only [xr,simprocAttr];done) | (simp only [xr,simprocAttr];refine kL ?_;first | with_reducible assumption | (guard_target =~ (_:Int)<=_;omega) | (guard_target =~ (_:Int)<_;omega) | (guard_target =~ (_:Nat)<_;omega) | (guard_target =~ (_:Nat)<=_;omega) | (guard_target =~ (_:Int)=_;omega) | (unfold I64;omega) | trivial | omega | (simp<;>omega) | (intros;omega))):P:=h
theorem amK {P:Prop} (h:P:=by simp only [xr,simprocAttr]<;>(and_intros<;>first | with_reducible assumption | (guard_target =~ (_:Int)<=_;omega) | (guard_target =~ (_:Int)<_;omega) | (guard_target =~ (_:Nat)<_;omega) | (guard_target =~ (_:Nat)<=_;omega) | (guard_target =~ (_:Int)=_;omega) | (unfold I64;omega) | trivial | omega | (simp<;>omega) | (intros;omega))):P:=h
theorem amT {P:Prop} (h:P:=by first | (show _<List.length _;omega) | first | with_reducible assumption | (guard_target =~ (_:Int)<=_;omega) | (guard_target =~ (_:Int)<_;omega) | (guard_target =~ (_:Nat)<_;omega) | (guard_target =~ (_:Nat)<=_;omega) | (guard_target =~ (_:Int)=_;omega) | (unfold I64;omega) | trivial | omega | (simp<;>omega) | (intros;omega)):P:=h
theorem amQ {P:Prop} (h:P:=by first | rfl | (simp only [xr,simprocAttr];rfl)):P:=h
theorem Dc {P Q:Prop} (q:Q) (h:Hold Q->P:=by intro h;(simp only [xec,simprocAttr];refine ⟨[_,_],⟨⟨amK,rfl⟩,rfl,trivial⟩,rfl,Imp.eq ?_⟩);exact h.out):P:=h ⟨q⟩
theorem bY {P:Prop} (h:P:=by (try simp only [xk]);(repeat (refine jG ?_ ?_;first | (exact amE) | rotate_left));(try exact lZ rfl);(all_goals (try (simp only [xr,simprocAttr];try refine kL ?_)))):P:=h
theorem bZ {P:Prop} (h:P:=by (try simp only [xk]);(repeat (refine jG ?_ ?_;first | (exact amE) | rotate_left));(refine lZ ?_;exact (by rfl));(all_goals (try (simp only [xr,simprocAttr];try refine kL ?_)))):P:=h
theorem bV {B:List (Nat×Bool×AV)} {H':List Ob} {X:St} (e:H'=X.H) (h:leK B X.H X:=by (try simp only [xk]);(repeat (refine jG ?_ ?_;first | (exact amE) | rotate_left));(refine lZ ?_;exact rfl);(all_goals (try (simp only [xr,simprocAttr];try refine kL ?_)))):leK B H' X:=by rw [e];exact h
theorem amF {P Q:Prop} (h:Q:=by and_intros<;>first | rfl | (simp;done)):P\/Q := .inr h
end Go.Proofs.YtkcelmnbfbehbaaGreat
