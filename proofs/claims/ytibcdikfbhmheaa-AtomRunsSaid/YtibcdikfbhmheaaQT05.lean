import Derived.Test.YtibcdikfbhmheaaQT04
set_option linter.unusedSimpArgs false
set_option linter.unusedVariables false
set_option maxRecDepth 100000
set_option maxHeartbeats 4000000
namespace Go.Proofs.Ytibcdikfbhmheaa
open Go Go.Conc Go.Proofs
open Go.ConcN (sumTo upd sumTo_upd upd_ne upd_same)
set_option linter.unusedVariables false
theorem array43f (T : Array Value) (h : T.size = 43) : ∃ f : Nat → Value,(∀ i v,T[i]? = some v → f i = v) ∧ T = #[f 0,f 1,f 2,f 3,f 4,f 5,f 6,f 7,f 8,f 9,f 10,f 11,f 12,f 13,f 14,f 15,f 16,f 17,f 18,f 19,f 20,f 21,f 22,f 23,f 24,f 25,f 26,f 27,f 28,f 29,f 30,f 31,f 32,f 33,f 34,f 35,f 36,f 37,f 38,f 39,f 40,f 41,f 42]:=arrg T h
noncomputable def B29 : Code:=Try.f29.body.getD .skip
noncomputable def fr0 : Code:=nva B29
noncomputable def L29 : Code:=nvl (nvk (nvb B29))
noncomputable def fr1 : Code:=nva (nva L29)
noncomputable def fy29 : Code:=nvb L29
noncomputable def fr2 : Code:=nvb fy29
noncomputable def fbb : Code:=nvk (nva fy29)
noncomputable def fo3 : Array Oper:=rops (nva fbb)
noncomputable def fy4 : Code:=nvb fbb
noncomputable def fr4 : Code:=nva fy4
noncomputable def fr5 : Code:=nva (nvb fy4)
noncomputable def fr6 : Code:=nvd (nvb (nvb fy4))
theorem B29_eq : B29 = .seq fr0 (.block 0 (.loop L29)):=by simp only [fr0,fr1,fr2,fo3,fr4,fr5,fr6,fy4,fbb,fy29,L29,B29,rops,nva,nvb,nvk,nvl,nvd,nve,Try.f29,Option.getD_some]
theorem L29_eq : L29 = .seq (.seq fr1 (.cond (.tmp 14) .skip (.exit 0))) (.seq (.block 1 (.seq (.region 3 fo3 false) fy4)) fr2):=by simp only [fr0,fr1,fr2,fo3,fr4,fr5,fr6,fy4,fbb,fy29,L29,B29,rops,nva,nvb,nvk,nvl,nvd,nve,Try.f29,Option.getD_some]
theorem fy4_eq : fy4 = .seq fr4 (.seq fr5 (.cond (.tmp 38) fr6 .skip)):=by simp only [fr0,fr1,fr2,fo3,fr4,fr5,fr6,fy4,fbb,fy29,L29,B29,rops,nva,nvb,nvk,nvl,nvd,nve,Try.f29,Option.getD_some]
def HF (D : Ae) (i k : Nat) (tp : Value) (T : Array Value) : Prop:=T.size = 43 ∧ T[0]? = some tp ∧ T[1]? = some (bq D.tb) ∧ T[2]? = some (bq (D.ix i)) ∧ T[3]? = some (bq D.ab) ∧ T[4]? = some (bq D.gb) ∧ T[6]? = some (.int .i64 (k : Int))
structure Rd (D : Ae) (i : Nat) (V : World) (g o : Nat) : Prop where
 c1 : V.cell? ⟨D.tb,0,none⟩ = some (.slice (some ⟨g,o,none⟩) D.n D.lc)
 c2 : V.cell? ⟨D.ix i,0,none⟩ = some (.int .i64 (i : Int))
 c3 : V.cell? ⟨g,o + i,none⟩ = some (.slice (D.ra i) (D.acts i).length (D.rc i))
section
variable {D : Ae} {V : World} {main : Bool} {Z : Cuts} {Stop : Goroutine → World → Prop} {tp : Value} {cs : List Frame} {i k g o g2 o2 b7 : Nat} {T : Array Value} {kt : List Item} {a n od r : Int} {ok : Bool} {lv : Value}
theorem af_r0 (hn : norm V = V) (hi : i < D.n) (hT : T.size = 43 ∧ T[0]? = some tp ∧ T[1]? = some (bq D.tb) ∧ T[2]? = some (bq (D.ix i)) ∧ T[3]? = some (bq D.ab) ∧ T[4]? = some (bq D.gb))
   (K : ∀ T',HF D i 0 tp T' → Will Try.prog main Z Stop (G ((base 29).at ⟨T',[]⟩ kt) cs) V) :
   Will Try.prog main Z Stop (G ((base 29).at ⟨T,[]⟩ (.code fr0 :: kt)) cs) V:=by
 refine will_code (L:=Lone) (R:=fun aa V'=>V' = V ∧ HF D i 0 tp aa.tmps) calm rfl ⟨_,Try.func29⟩ rfl (by kernel_rfl) (fun τ=>?_) fun a' V' ⟨q0,q1⟩ ha'=>?_
 · obtain ⟨hs,t0,t1,t2,t3,t4⟩:=hT
   simp only [bq] at *
   clear K
   obtain ⟨f,hf,hT⟩:=array43f T hs
   rw [hT]
   simp only [hf _ _ t0,hf _ _ t1,hf _ _ t2,hf _ _ t3,hf _ _ t4]
   clear hf hs t0 t1 t2 t3 t4
   subst hT
   simp only [fr0,fr1,fr2,fo3,fr4,fr5,fr6,fy4,fbb,fy29,L29,B29,rops,nva,nvb,nvk,nvl,nvd,nve,Try.f29,Option.getD_some]
   go_wp2_with fail
   refine ⟨hn,?_⟩
   first | exact ⟨by simp,rfl,rfl,rfl,rfl,rfl,rfl⟩
 · obtain ⟨T',df⟩:=a'
   simp only at ha' q1 
   subst ha' q0
   exact K T' q1 
theorem af_r1 (hn : norm V = V) (hi : i < D.n) (hR : Rd D i V g o) (hT : HF D i k tp T)
   (K : ∀ T',HF D i k tp T' → T'[14]? = some (.bool (decide ((k : Int) < ((D.acts i).length : Int)))) → Will Try.prog main Z Stop (G ((base 29).at ⟨T',[]⟩ kt) cs) V) :
   Will Try.prog main Z Stop (G ((base 29).at ⟨T,[]⟩ (.code fr1 :: kt)) cs) V:=by
 refine will_code (L:=Lone) (R:=fun aa V'=>V' = V ∧ HF D i k tp aa.tmps ∧ aa.tmps[14]? = some (.bool (decide ((k : Int) < ((D.acts i).length : Int))))) calm rfl ⟨_,Try.func29⟩ rfl (by kernel_rfl) (fun τ=>?_) fun a' V' ⟨q0,q1,m0⟩ ha'=>?_
 · obtain ⟨hs,t0,t1,t2,t3,t4,t6⟩:=hT
   simp only [bq] at *
   have q1 : ¬ ((i : Int) < 0):=by omega
   have q2 : ¬ ((D.n : Int) ≤ (i : Int)):=by omega
   have d1 : (re V τ 0).cell? ⟨D.tb,0,none⟩ = some (.slice (some ⟨g,o,none⟩) D.n D.lc):=hR.c1
   have d2 : (re V τ 0).cell? ⟨D.ix i,0,none⟩ = some (.int .i64 (i : Int)):=hR.c2
   have d3 : (re V τ 0).cell? ⟨g,o + i,none⟩ = some (.slice (D.ra i) (D.acts i).length (D.rc i)):=hR.c3
   clear hR
   clear K
   obtain ⟨f,hf,hT⟩:=array43f T hs
   rw [hT]
   simp only [hf _ _ t0,hf _ _ t1,hf _ _ t2,hf _ _ t3,hf _ _ t4,hf _ _ t6]
   clear hf hs t0 t1 t2 t3 t4 t6
   subst hT
   simp only [fr0,fr1,fr2,fo3,fr4,fr5,fr6,fy4,fbb,fy29,L29,B29,rops,nva,nvb,nvk,nvl,nvd,nve,Try.f29,Option.getD_some]
   go_wp2_with fail
   refine ⟨hn,?_⟩
   first | exact ⟨⟨by simp,rfl,rfl,rfl,rfl,rfl,rfl⟩,rfl⟩ | exact ⟨by simp,rfl,rfl,rfl,rfl,rfl,rfl⟩
 · obtain ⟨T',df⟩:=a'
   simp only at ha' q1 m0
   subst ha' q0
   exact K T' q1 m0
theorem af_r2 (hn : norm V = V) (hi : i < D.n) (hk : k < 1000) (hT : HF D i k tp T)
   (K : ∀ T',HF D i (k + 1) tp T' → Will Try.prog main Z Stop (G ((base 29).at ⟨T',[]⟩ kt) cs) V) :
   Will Try.prog main Z Stop (G ((base 29).at ⟨T,[]⟩ (.code fr2 :: kt)) cs) V:=by
 refine will_code (L:=Lone) (R:=fun aa V'=>V' = V ∧ HF D i (k + 1) tp aa.tmps) calm rfl ⟨_,Try.func29⟩ rfl (by kernel_rfl) (fun τ=>?_) fun a' V' ⟨q0,q1⟩ ha'=>?_
 · obtain ⟨hs,t0,t1,t2,t3,t4,t6⟩:=hT
   simp only [bq] at *
   have w1 : IntKind.i64.wrap ((k : Int) + 1) = ((k + 1 : Nat) : Int):=by rw [IntKind.wrap_i64]; omega
   clear K
   obtain ⟨f,hf,hT⟩:=array43f T hs
   rw [hT]
   simp only [hf _ _ t0,hf _ _ t1,hf _ _ t2,hf _ _ t3,hf _ _ t4,hf _ _ t6]
   clear hf hs t0 t1 t2 t3 t4 t6
   subst hT
   simp only [fr0,fr1,fr2,fo3,fr4,fr5,fr6,fy4,fbb,fy29,L29,B29,rops,nva,nvb,nvk,nvl,nvd,nve,Try.f29,Option.getD_some]
   go_wp2_with fail
   refine ⟨hn,?_⟩
   first | exact ⟨by simp,rfl,rfl,rfl,rfl,rfl,rfl⟩
 · obtain ⟨T',df⟩:=a'
   simp only at ha' q1 
   subst ha' q0
   exact K T' q1 
theorem af_r4 (hn : norm V = V) (hi : i < D.n) (h7 : V.heap[b7]? = some (.cells #[.int .i64 0,.int .i64 0,.int .i64 r,.bool ok] 67 (0,0))) (hc2 : V.cell? ⟨D.ix i,0,none⟩ = some (.int .i64 (i : Int))) (t7 : T[7]? = some (bq b7)) (hT : HF D i k tp T)
   (K : ∀ T',HF D i k tp T' → T'[7]? = some (bq b7) → Will Try.prog main Z Stop (G ((base 29).at ⟨T',[]⟩ kt) cs) ((V.setCell ⟨b7,0,none⟩ (.int .i64 (i : Int))).setCell ⟨b7,1,none⟩ (.int .i64 (k : Int)))) :
   Will Try.prog main Z Stop (G ((base 29).at ⟨T,[]⟩ (.code fr4 :: kt)) cs) V:=by
 refine will_code (L:=Lone) (R:=fun aa V'=>V' = ((V.setCell ⟨b7,0,none⟩ (.int .i64 (i : Int))).setCell ⟨b7,1,none⟩ (.int .i64 (k : Int))) ∧ HF D i k tp aa.tmps ∧ aa.tmps[7]? = some (bq b7)) calm rfl ⟨_,Try.func29⟩ rfl (by kernel_rfl) (fun τ=>?_) fun a' V' ⟨q0,q1,m0⟩ ha'=>?_
 · obtain ⟨hs,t0,t1,t2,t3,t4,t6⟩:=hT
   simp only [bq] at *
   have d2 : (re V τ 0).cell? ⟨D.ix i,0,none⟩ = some (.int .i64 (i : Int)):=hc2
   have e0 : (re V τ 0).cell? ⟨b7,0,none⟩ = some (.int .i64 0):=cell_of h7 (by simp)
   have e1 : (re V τ 0).cell? ⟨b7,1,none⟩ = some (.int .i64 0):=cell_of h7 (by simp)
   have z0 : (re V τ 0).frozen? ⟨b7,0,none⟩ = false:=by simp [World.frozen?,re,h7]
   have z1 : (re V τ 0).frozen? ⟨b7,1,none⟩ = false:=by simp [World.frozen?,re,h7]
   clear h7 hc2
   clear K
   obtain ⟨f,hf,hT⟩:=array43f T hs
   rw [hT]
   simp only [hf _ _ t0,hf _ _ t1,hf _ _ t2,hf _ _ t3,hf _ _ t4,hf _ _ t6,hf _ _ t7]
   clear hf hs t0 t1 t2 t3 t4 t6 t7
   subst hT
   simp only [fr0,fr1,fr2,fo3,fr4,fr5,fr6,fy4,fbb,fy29,L29,B29,rops,nva,nvb,nvk,nvl,nvd,nve,Try.f29,Option.getD_some]
   go_wp2_with fail
   refine ⟨norm_set (norm_set hn _ _) _ _,?_⟩
   first | exact ⟨⟨by simp,rfl,rfl,rfl,rfl,rfl,rfl⟩,rfl⟩ | exact ⟨by simp,rfl,rfl,rfl,rfl,rfl,rfl⟩
 · obtain ⟨T',df⟩:=a'
   simp only at ha' q1 m0
   subst ha' q0
   exact K T' q1 m0
theorem af_r5 (hn : norm V = V) (hi : i < D.n) (hk : k < (D.acts i).length) (hR : Rd D i V g o) (hra : D.ra i = some ⟨g2,o2,none⟩) (hc4 : V.cell? ⟨g2,o2 + k * 3,none⟩ = some (.int .i64 a)) (t7 : T[7]? = some (bq b7)) (hT : HF D i k tp T)
   (K : ∀ T',HF D i k tp T' → T'[7]? = some (bq b7) → T'[38]? = some (.bool (!(a == 3))) → Will Try.prog main Z Stop (G ((base 29).at ⟨T',[]⟩ kt) cs) V) :
   Will Try.prog main Z Stop (G ((base 29).at ⟨T,[]⟩ (.code fr5 :: kt)) cs) V:=by
 refine will_code (L:=Lone) (R:=fun aa V'=>V' = V ∧ HF D i k tp aa.tmps ∧ aa.tmps[7]? = some (bq b7) ∧ aa.tmps[38]? = some (.bool (!(a == 3)))) calm rfl ⟨_,Try.func29⟩ rfl (by kernel_rfl) (fun τ=>?_) fun a' V' ⟨q0,q1,m0,m1⟩ ha'=>?_
 · obtain ⟨hs,t0,t1,t2,t3,t4,t6⟩:=hT
   simp only [bq] at *
   have q1 : ¬ ((i : Int) < 0):=by omega
   have q2 : ¬ ((D.n : Int) ≤ (i : Int)):=by omega
   have q3 : ¬ ((k : Int) < 0):=by omega
   have q4 : ¬ (((D.acts i).length : Int) ≤ (k : Int)):=by omega
   have d1 : (re V τ 0).cell? ⟨D.tb,0,none⟩ = some (.slice (some ⟨g,o,none⟩) D.n D.lc):=hR.c1
   have d2 : (re V τ 0).cell? ⟨D.ix i,0,none⟩ = some (.int .i64 (i : Int)):=hR.c2
   have d3 : (re V τ 0).cell? ⟨g,o + i,none⟩ = some (.slice (D.ra i) (D.acts i).length (D.rc i)):=hR.c3
   rw [hra] at d3
   have d4 : (re V τ 0).cell? ⟨g2,o2 + k * 3,none⟩ = some (.int .i64 a):=hc4
   clear hc4 hR hra
   clear K
   obtain ⟨f,hf,hT⟩:=array43f T hs
   rw [hT]
   simp only [hf _ _ t0,hf _ _ t1,hf _ _ t2,hf _ _ t3,hf _ _ t4,hf _ _ t6,hf _ _ t7]
   clear hf hs t0 t1 t2 t3 t4 t6 t7
   subst hT
   simp only [fr0,fr1,fr2,fo3,fr4,fr5,fr6,fy4,fbb,fy29,L29,B29,rops,nva,nvb,nvk,nvl,nvd,nve,Try.f29,Option.getD_some]
   go_wp2_with fail
   refine ⟨hn,?_⟩
   first | exact ⟨⟨by simp,rfl,rfl,rfl,rfl,rfl,rfl⟩,rfl,rfl⟩ | exact ⟨⟨by simp,rfl,rfl,rfl,rfl,rfl,rfl⟩,rfl⟩ | exact ⟨by simp,rfl,rfl,rfl,rfl,rfl,rfl⟩
 · obtain ⟨T',df⟩:=a'
   simp only at ha' q1 m0 m1
   subst ha' q0
   exact K T' q1 m0 m1
theorem slice_ofA {V : World} {e : TypeId} {k : Nat} {v : Value} {n : Nat} {xs : List Value} (h : V.ownsRow 0 e k v n xs) : ∃ b m c,v = .slice b m c:=by
 obtain ⟨_,h2⟩:=h
 rcases h2 with ⟨rfl,_⟩ | ⟨g,cap,cur,rfl,_⟩
 · exact ⟨_,_,_,rfl⟩
 · exact ⟨_,_,_,rfl⟩
theorem set_offA {V : World} {g j b : Nat} (x : Value) (h : b ≠ g) : (V.setCell ⟨g,j,none⟩ x).heap[b]? = V.heap[b]?:=by rw [setCell_heap,if_neg h]
theorem will_ex {P : Program} {L : List FuncId} {main : Bool} {Z : Cuts} {Stop : Goroutine → World → Prop} {V : World} {b : Frame} {a : Act} {ops : Array Oper} {i : Nat} {rest : List Nat} {k : List Item} {cs : List Frame} {o : Oper} (hb : b.kind = .normal) (ho : ops[i]? = some o) (hw : Region.wanted o (yielded ops a.tmps) = true) (hok : opOk P L o.op = true) (Ψ : Value → World → Prop)
   (hr : ∀ τ,∃ v W,(execOp a.eval o).run P (re V τ 0) = .ok (.value v) W ∧ Ψ v (norm W)) (K : ∀ v V',Ψ v V' → norm V' = V' → Will P main Z Stop (G (b.at (a.put o.dst v) (.inRegion ops rest :: k)) cs) V') : Will P main Z Stop (G (b.at a (.inRegion ops (i :: rest) :: k)) cs) V :=
 will_oper hb ho hw hok fun τ=>by
   obtain ⟨v,W,e,h1⟩:=hr τ
   rw [e]
   exact K v _ h1 rfl
theorem af_r6 {m : Nat} {ys : List Value} (hn : norm V = V) (h7 : V.heap[b7]? = some (.cells #[.int .i64 (i : Int),.int .i64 (k : Int),.int .i64 r,.bool ok] 67 (0,0))) (hg : V.heap[D.gb]? = some (.cells #[lv] 65 (0,0))) (hrow : V.ownsRow 0 67 4 lv m ys) (hm : m < 900000000) (hlg : lv.ownBlock ≠ some D.gb) (t7 : T[7]? = some (bq b7)) (hT : HF D i k tp T)
   (K : ∀ T' V' v',HF D i k tp T' → norm V' = V' → V'.heap[D.gb]? = some (.cells #[v'] 65 (0,0)) → V'.ownsRow 0 67 4 v' (m + 1) (ys ++ [.int .i64 (i : Int),.int .i64 (k : Int),.int .i64 r,.bool ok]) → V.heap.size ≤ V'.heap.size → (∀ b,b < V.heap.size → b ≠ D.gb → lv.ownBlock ≠ some b → V'.heap[b]? = V.heap[b]?) → (∀ b,v'.ownBlock = some b → lv.ownBlock = some b ∨ V.heap.size ≤ b) → Will Try.prog main Z Stop (G ((base 29).at ⟨T',[]⟩ kt) cs) V') :
   Will Try.prog main Z Stop (G ((base 29).at ⟨T,[]⟩ (.code fr6 :: kt)) cs) V:=by
 have hK0:=K
 clear K
 obtain ⟨sx,sn,sc,rfl⟩:=slice_ofA hrow
 have hgl : D.gb < V.heap.size:=(Array.getElem?_eq_some_iff.1 hg).1
 have hrl : ∀ b,(Value.slice sx sn sc).ownBlock = some b → b < V.heap.size:=fun b hb=>row_at hrow hb
 obtain ⟨hs,t0,t1,t2,t3,t4,t6⟩:=hT
 simp only [bq] at t0 t1 t2 t3 t4 t6 t7
 obtain ⟨f,hf,hT⟩:=array43f T hs
 rw [hT]
 simp only [hf _ _ t0,hf _ _ t1,hf _ _ t2,hf _ _ t3,hf _ _ t4,hf _ _ t6,hf _ _ t7]
 clear hf hs t0 t1 t2 t3 t4 t6 t7
 subst hT
 generalize hX0 : fr6 = X0
 simp only [fr0,fr1,fr2,fo3,fr4,fr5,fr6,fy4,fbb,fy29,L29,B29,rops,nva,nvb,nvk,nvl,nvd,nve,Try.f29,Option.getD_some] at hX0
 subst hX0
 have r_h7_0 : ∀ τ,(re V τ 0).cell? ⟨b7,0,none⟩ = some (.int .i64 (i : Int)):=fun τ=>cell_of h7 (by simp)
 have r_h7_1 : ∀ τ,(re V τ 0).cell? ⟨b7,1,none⟩ = some (.int .i64 (k : Int)):=fun τ=>cell_of h7 (by simp)
 have r_h7_2 : ∀ τ,(re V τ 0).cell? ⟨b7,2,none⟩ = some (.int .i64 r):=fun τ=>cell_of h7 (by simp)
 have r_h7_3 : ∀ τ,(re V τ 0).cell? ⟨b7,3,none⟩ = some (.bool ok):=fun τ=>cell_of h7 (by simp)
 have r_hg_0 : ∀ τ,(re V τ 0).cell? ⟨D.gb,0,none⟩ = some (.slice sx sn sc):=fun τ=>cell_of hg (by simp)
 obtain ⟨K,hK,hV,key,yek⟩:=kKV (L:=Lone) (J:=fun g=>Will Try.prog main Z Stop g V) mu_will (muv_will hn)
 refine key _ ?_
 repeat (first|(with_reducible first|refine mu_seq hK ?_|refine mu_skip hK ?_|(refine mu_region_end hK ?_;try subst hkk)|refine mu_block hK ?_|refine mu_inBlock hK ?_|refine mu_ret hK ?_|refine mu_end hK ?_)|refine mu_exit hK rfl ?_|(with_reducible refine mu_regionH hK (fun kk hkk=>?_);simp only [List.size_toArray,List.length_cons,List.length_nil,Nat.reduceAdd,Nat.zero_add,List.range,List.range.loop])|(with_reducible refine mu_cf hK ?_ ?_;(· first|(walk_nrm;done)|(simp [Act.eval];done)))|(with_reducible refine mu_ct hK ?_ ?_;(· first|(walk_nrm;done)|(simp [Act.eval];done)))|(refine mu_unwanted hK rfl rfl ?_;walk_nrm)|(refine muv_val hV rfl (by first|exact .inl rfl|exact .inr rfl) rfl (by kernel_rfl) (fun J hJ=>?_);go_simp;with_reducible refine hJ _ ?_;clear hJ J;walk_nrm))
 clear r_h7_0 r_h7_1 r_h7_2 r_h7_3 r_hg_0
 refine yek _ ?_
 clear hK hV key yek K
 have hnA : norm (V.alloc (.cells #[.int .i64 (i : Int),.int .i64 (k : Int),.int .i64 r,.bool ok] 67)) = (V.alloc (.cells #[.int .i64 (i : Int),.int .i64 (k : Int),.int .i64 r,.bool ok] 67)):=norm_al hn _
 refine mua_put (L:=Lone) (v:=.slice (some ⟨V.heap.size,0,none⟩) 1 1) (mua_will hnA) (K:=fun g=>Will Try.prog main Z Stop g V) (K':=fun g=>Will Try.prog main Z Stop g (V.alloc (.cells #[.int .i64 (i : Int),.int .i64 (k : Int),.int .i64 r,.bool ok] 67))) rfl (.inl rfl) rfl (by kernel_rfl) (fun τ=>?_) ?_
 · go_simp
   first | exact ⟨by first | rfl | assumption | (simp only [re]; omega),rfl⟩ | rfl | (simp; done)
 have eA : (V.alloc (.cells #[.int .i64 (i : Int),.int .i64 (k : Int),.int .i64 r,.bool ok] 67)).heap[V.heap.size]? = some (.cells #[.int .i64 (i : Int),.int .i64 (k : Int),.int .i64 r,.bool ok] 67 (0,0)):=by rw [al_get,if_pos rfl]
 have sA : (V.alloc (.cells #[.int .i64 (i : Int),.int .i64 (k : Int),.int .i64 r,.bool ok] 67)).heap.size = V.heap.size + 1:=by rw [al_size]
 have kA : ∀ b,b < V.heap.size → (V.alloc (.cells #[.int .i64 (i : Int),.int .i64 (k : Int),.int .i64 r,.bool ok] 67)).heap[b]? = V.heap[b]?:=fun b hb=>by rw [al_get,if_neg (by omega)]
 generalize (V.alloc (.cells #[.int .i64 (i : Int),.int .i64 (k : Int),.int .i64 r,.bool ok] 67)) = VA at *
 walk_nrm
 have rowA : VA.ownsRow 0 67 4 (.slice sx sn sc) m ys:=row_keep hrow fun b hb=>kA b (hrl b hb)
 have litA : VA.ownsRow 0 67 4 (.slice (some ⟨V.heap.size,0,none⟩) 1 1) 1 [.int .i64 (i : Int),.int .i64 (k : Int),.int .i64 r,.bool ok]:=⟨rfl,.inr ⟨V.heap.size,1,#[.int .i64 (i : Int),.int .i64 (k : Int),.int .i64 r,.bool ok],rfl,Nat.zero_le _,eA,Nat.le_refl _,by simp [maxLen],rfl,rfl⟩⟩
 refine will_ex (L:=Lone) rfl rfl rfl (by kernel_rfl) (fun v W=>W.ownsRow 0 67 4 v (m + 1) (ys ++ [.int .i64 (i : Int),.int .i64 (k : Int),.int .i64 r,.bool ok]) ∧ VA.heap.size ≤ W.heap.size ∧ (∀ b,b < VA.heap.size → (Value.slice sx sn sc).ownBlock ≠ some b → W.heap[b]? = VA.heap[b]?) ∧ (v.ownBlock = (Value.slice sx sn sc).ownBlock ∨ v.ownBlock = some VA.heap.size)) (fun τ=>?_) fun v2 V2 ⟨s1,s2,s3,s4⟩ hn2=>?_
 · obtain ⟨v',w',a1,a2,a3,a4,a5⟩:=app_row (V:=re VA τ 0) (t:=65) (e:=67) (z:=.agg #[.int .i64 0,.int .i64 0,.int .i64 0,.bool false]) (B:=32) Try.underlying65 (by kernel_rfl) (by rfl) (by decide) (by decide) (owns_re rowA) (owns_re litA) (by simp [Value.oneCell']) (by omega)
   exact ⟨v',w',run_app_opm rfl rfl rfl a1,a2,a3,a4,a5⟩
 obtain ⟨yb,yn,yc,rfl⟩:=slice_ofA s1
 have g2 : V2.heap[D.gb]? = some (.cells #[.slice sx sn sc] 65 (0,0)):=(s3 D.gb (by omega) hlg).trans ((kA D.gb hgl).trans hg)
 have r0 : ∀ τ,(re V2 τ 0).cell? ⟨D.gb,0,none⟩ = some (.slice sx sn sc):=fun τ=>cell_of g2 (by simp)
 have z0 : ∀ τ,(re V2 τ 0).frozen? ⟨D.gb,0,none⟩ = false:=fun τ=>by simp [World.frozen?,re,g2]
 have hnS : norm (V2.setCell ⟨D.gb,0,none⟩ (.slice yb yn yc)) = (V2.setCell ⟨D.gb,0,none⟩ (.slice yb yn yc)):=norm_set hn2 _ _
 walk_nrm
 refine mus_put (L:=Lone) (mus_will hnS) (K:=fun g=>Will Try.prog main Z Stop g V2) (K':=fun g=>Will Try.prog main Z Stop g (V2.setCell ⟨D.gb,0,none⟩ (.slice yb yn yc))) rfl (.inl rfl) rfl (by kernel_rfl) (fun τ=>?_) ?_
 · go_simp
   try rfl
 walk_nrm
 refine mu_region_end mu_will ?_
 have hlo : ∀ b,(Value.slice yb yn yc).ownBlock = some b → (Value.slice sx sn sc).ownBlock = some b ∨ V.heap.size ≤ b:=fun b hb=>by
   rcases s4 with h | h
   · exact .inl (h ▸ hb)
   · rw [h] at hb
     have:=Option.some.inj hb
     right; omega
 try subst hkk
 refine hK0 _ _ (.slice yb yn yc) ⟨by simp,rfl,rfl,rfl,rfl,rfl,rfl⟩ hnS ?_ ?_ ?_ (fun b hb hne hno=>?_) hlo
 · rw [setCell_heap,if_pos rfl,g2]
   simp
 · exact row_keep s1 fun b hb=>set_offA _ (fun e=>by
     rcases hlo b hb with h | h
     · exact hlg (e ▸ h)
     · omega)
 · have : (V2.setCell ⟨D.gb,0,none⟩ (.slice yb yn yc)).heap.size = V2.heap.size:=by simp [World.setCell]
   omega
 · rw [set_offA _ hne,s3 b (by omega) hno,kA b hb]
theorem af_call (hn : norm V = V) (hi : i < D.n) (hk : k < (D.acts i).length) (hR : Rd D i V g o) (hra : D.ra i = some ⟨g2,o2,none⟩) (hc4 : V.cell? ⟨g2,o2 + k * 3,none⟩ = some (.int .i64 a)) (hc5 : V.cell? ⟨g2,o2 + k * 3 + 1,none⟩ = some (.int .i64 n)) (hc6 : V.cell? ⟨g2,o2 + k * 3 + 2,none⟩ = some (.int .i64 od)) (hT : HF D i k tp T)
   (K : ∀ T',HF D i k tp T' → Will Try.prog main Z Stop (G (Frame.enter Try.prog 30 #[bq D.ab,tp,.agg #[.int .i64 a,.int .i64 n,.int .i64 od]] .normal) ((base 29).at ⟨T',[]⟩ (.inRegion fo3 [8,9,10] :: kt) :: cs)) V) :
   Will Try.prog main Z Stop (G ((base 29).at ⟨T,[]⟩ (.code (.region 3 fo3 false) :: kt)) cs) V:=by
 have hK0:=K
 clear K
 obtain ⟨hs,t0,t1,t2,t3,t4,t6⟩:=hT
 simp only [bq] at t0 t1 t2 t3 t4 t6
 have q1 : ¬ ((i : Int) < 0):=by omega
 have q2 : ¬ ((D.n : Int) ≤ (i : Int)):=by omega
 have q3 : ¬ ((k : Int) < 0):=by omega
 have q4 : ¬ (((D.acts i).length : Int) ≤ (k : Int)):=by omega
 have d1 : ∀ τ,(re V τ 0).cell? ⟨D.tb,0,none⟩ = some (.slice (some ⟨g,o,none⟩) D.n D.lc):=fun τ=>hR.c1
 have d2 : ∀ τ,(re V τ 0).cell? ⟨D.ix i,0,none⟩ = some (.int .i64 (i : Int)):=fun τ=>hR.c2
 have d3 : ∀ τ,(re V τ 0).cell? ⟨g,o + i,none⟩ = some (.slice (some ⟨g2,o2,none⟩) (D.acts i).length (D.rc i)):=fun τ=>by rw [← hra]; exact hR.c3
 have d4 : ∀ τ,(re V τ 0).cell? ⟨g2,o2 + k * 3,none⟩ = some (.int .i64 a):=fun τ=>hc4
 have d5 : ∀ τ,(re V τ 0).cell? ⟨g2,o2 + k * 3 + 1,none⟩ = some (.int .i64 n):=fun τ=>hc5
 have d6 : ∀ τ,(re V τ 0).cell? ⟨g2,o2 + k * 3 + 2,none⟩ = some (.int .i64 od):=fun τ=>hc6
 clear hR hra hc4 hc5 hc6
 obtain ⟨f,hf,hT⟩:=array43f T hs
 rw [hT]
 simp only [hf _ _ t0,hf _ _ t1,hf _ _ t2,hf _ _ t3,hf _ _ t4,hf _ _ t6]
 clear hf hs t0 t1 t2 t3 t4 t6
 subst hT
 generalize hX0 : fo3 = X0
 simp only [fr0,fr1,fr2,fo3,fr4,fr5,fr6,fy4,fbb,fy29,L29,B29,rops,nva,nvb,nvk,nvl,nvd,nve,Try.f29,Option.getD_some] at hX0
 subst hX0
 obtain ⟨K,hK,hV,key,yek⟩:=kKV (L:=Lone) (J:=fun g=>Will Try.prog main Z Stop g V) mu_will (muv_will hn)
 refine key _ ?_
 repeat (first|(with_reducible first|refine mu_seq hK ?_|refine mu_skip hK ?_|(refine mu_region_end hK ?_;try subst hkk)|refine mu_block hK ?_|refine mu_inBlock hK ?_|refine mu_ret hK ?_|refine mu_end hK ?_)|refine mu_exit hK rfl ?_|(with_reducible refine mu_regionH hK (fun kk hkk=>?_);simp only [List.size_toArray,List.length_cons,List.length_nil,Nat.reduceAdd,Nat.zero_add,List.range,List.range.loop])|(with_reducible refine mu_cf hK ?_ ?_;(· first|(walk_nrm;done)|(simp [Act.eval];done)))|(with_reducible refine mu_ct hK ?_ ?_;(· first|(walk_nrm;done)|(simp [Act.eval];done)))|(refine mu_unwanted hK rfl rfl ?_;walk_nrm)|(refine muv_val hV rfl (by first|exact .inl rfl|exact .inr rfl) rfl (by kernel_rfl) (fun J hJ=>?_);go_simp;with_reducible refine hJ _ ?_;clear hJ J;walk_nrm))
 refine mu_call hK rfl rfl (by decide) rfl Try.func30 (by kernel_rfl) rfl ?_
 rw [← enter_at (P:=Try.prog) _ Try.func30 rfl]
 walk_nrm
 refine yek _ ?_
 clear hK hV key yek K
 subst_vars
 refine hK0 _ ?_
 exact ⟨by simp,rfl,rfl,rfl,rfl,rfl,rfl⟩
theorem af_back (hn : norm V = V) (hT : HF D i k tp T) (K : ∀ T' V',HF D i k tp T' → T'[7]? = some (bq V.heap.size) → norm V' = V' → Kp V V' → V'.heap.size = V.heap.size + 1 → V'.heap[V.heap.size]? = some (.cells #[.int .i64 0,.int .i64 0,.int .i64 r,.bool ok] 67 (0,0)) → Will Try.prog main Z Stop (G ((base 29).at ⟨T',[]⟩ kt) cs) V') :
   Will Try.prog main Z Stop (G ((base 29).at (Act.put ⟨T,[]⟩ ((fo3[8]?).bind (·.dst)) (.agg #[.int .i64 0,.int .i64 0,.int .i64 r,.bool ok])) (.inRegion fo3 [9,10] :: kt)) cs) V:=by
 have hK0:=K
 clear K
 have kp : Kp V V:=⟨Nat.le_refl _,fun _ _=>rfl⟩
 obtain ⟨hs,t0,t1,t2,t3,t4,t6⟩:=hT
 simp only [bq] at t0 t1 t2 t3 t4 t6
 obtain ⟨f,hf,hT⟩:=array43f T hs
 rw [hT]
 simp only [hf _ _ t0,hf _ _ t1,hf _ _ t2,hf _ _ t3,hf _ _ t4,hf _ _ t6]
 clear hf hs t0 t1 t2 t3 t4 t6
 subst hT
 generalize hX0 : fo3 = X0
 simp only [fr0,fr1,fr2,fo3,fr4,fr5,fr6,fy4,fbb,fy29,L29,B29,rops,nva,nvb,nvk,nvl,nvd,nve,Try.f29,Option.getD_some] at hX0
 subst hX0
 walk_nrm
 have hnA : norm (V.alloc (.cells #[.int .i64 0,.int .i64 0,.int .i64 0,.bool false] 67)) = (V.alloc (.cells #[.int .i64 0,.int .i64 0,.int .i64 0,.bool false] 67)):=norm_al hn _
 refine mua_put (L:=Lone) (v:=.pointer (some ⟨V.heap.size,0,none⟩)) (mua_will hnA) (K:=fun g=>Will Try.prog main Z Stop g V) (K':=fun g=>Will Try.prog main Z Stop g (V.alloc (.cells #[.int .i64 0,.int .i64 0,.int .i64 0,.bool false] 67))) rfl (.inl rfl) rfl (by kernel_rfl) (fun τ=>?_) ?_
 · go_simp
   first | exact ⟨by first | rfl | assumption | (simp only [re]; omega),rfl⟩ | rfl | (simp; done)
 have eA : (V.alloc (.cells #[.int .i64 0,.int .i64 0,.int .i64 0,.bool false] 67)).heap[V.heap.size]? = some (.cells #[.int .i64 0,.int .i64 0,.int .i64 0,.bool false] 67 (0,0)):=by rw [al_get,if_pos rfl]
 have sA : (V.alloc (.cells #[.int .i64 0,.int .i64 0,.int .i64 0,.bool false] 67)).heap.size = V.heap.size + 1:=by rw [al_size]
 have kA : Kp V (V.alloc (.cells #[.int .i64 0,.int .i64 0,.int .i64 0,.bool false] 67)):=⟨by rw [sA]; omega,fun b hb=>by rw [al_get,if_neg (by omega)]⟩
 generalize (V.alloc (.cells #[.int .i64 0,.int .i64 0,.int .i64 0,.bool false] 67)) = VA at *
 generalize hb7 : V.heap.size = b7 at eA sA kA hK0 ⊢
 walk_nrm
 have r0 : ∀ τ,(re VA τ 0).cell? ⟨b7,0,none⟩ = some (.int .i64 0):=fun τ=>cell_of eA (by simp)
 have z0 : ∀ τ,(re VA τ 0).frozen? ⟨b7,0,none⟩ = false:=fun τ=>by simp [World.frozen?,re,eA]
 have r1 : ∀ τ,(re VA τ 0).cell? ⟨b7,1,none⟩ = some (.int .i64 0):=fun τ=>cell_of eA (by simp)
 have z1 : ∀ τ,(re VA τ 0).frozen? ⟨b7,1,none⟩ = false:=fun τ=>by simp [World.frozen?,re,eA]
 have r2 : ∀ τ,(re VA τ 0).cell? ⟨b7,2,none⟩ = some (.int .i64 0):=fun τ=>cell_of eA (by simp)
 have z2 : ∀ τ,(re VA τ 0).frozen? ⟨b7,2,none⟩ = false:=fun τ=>by simp [World.frozen?,re,eA]
 have r3 : ∀ τ,(re VA τ 0).cell? ⟨b7,3,none⟩ = some (.bool false):=fun τ=>cell_of eA (by simp)
 have z3 : ∀ τ,(re VA τ 0).frozen? ⟨b7,3,none⟩ = false:=fun τ=>by simp [World.frozen?,re,eA]
 have hnS : norm ((((VA.setCell ⟨b7,0,none⟩ (.int .i64 0)).setCell ⟨b7,1,none⟩ (.int .i64 0)).setCell ⟨b7,2,none⟩ (.int .i64 r)).setCell ⟨b7,3,none⟩ (.bool ok)) = ((((VA.setCell ⟨b7,0,none⟩ (.int .i64 0)).setCell ⟨b7,1,none⟩ (.int .i64 0)).setCell ⟨b7,2,none⟩ (.int .i64 r)).setCell ⟨b7,3,none⟩ (.bool ok)):=norm_set (norm_set (norm_set (norm_set hnA _ _) _ _) _ _) _ _
 refine mus_put (L:=Lone) (mus_will hnS) (K:=fun g=>Will Try.prog main Z Stop g VA) (K':=fun g=>Will Try.prog main Z Stop g ((((VA.setCell ⟨b7,0,none⟩ (.int .i64 0)).setCell ⟨b7,1,none⟩ (.int .i64 0)).setCell ⟨b7,2,none⟩ (.int .i64 r)).setCell ⟨b7,3,none⟩ (.bool ok))) rfl (.inl rfl) rfl (by kernel_rfl) (fun τ=>?_) ?_
 · go_simp
   try rfl
 have kS : ∀ b,b ≠ b7 → ((((VA.setCell ⟨b7,0,none⟩ (.int .i64 0)).setCell ⟨b7,1,none⟩ (.int .i64 0)).setCell ⟨b7,2,none⟩ (.int .i64 r)).setCell ⟨b7,3,none⟩ (.bool ok)).heap[b]? = VA.heap[b]?:=fun b hb=>by rw [setCell_heap,if_neg hb,setCell_heap,if_neg hb,setCell_heap,if_neg hb,setCell_heap,if_neg hb]
 have eS : ((((VA.setCell ⟨b7,0,none⟩ (.int .i64 0)).setCell ⟨b7,1,none⟩ (.int .i64 0)).setCell ⟨b7,2,none⟩ (.int .i64 r)).setCell ⟨b7,3,none⟩ (.bool ok)).heap[b7]? = some (.cells #[.int .i64 0,.int .i64 0,.int .i64 r,.bool ok] 67 (0,0)):=by
   rw [setCell_heap,if_pos rfl,setCell_heap,if_pos rfl,setCell_heap,if_pos rfl,setCell_heap,if_pos rfl,eA]
   simp
 have sS : ((((VA.setCell ⟨b7,0,none⟩ (.int .i64 0)).setCell ⟨b7,1,none⟩ (.int .i64 0)).setCell ⟨b7,2,none⟩ (.int .i64 r)).setCell ⟨b7,3,none⟩ (.bool ok)).heap.size = VA.heap.size:=by simp [World.setCell]
 generalize ((((VA.setCell ⟨b7,0,none⟩ (.int .i64 0)).setCell ⟨b7,1,none⟩ (.int .i64 0)).setCell ⟨b7,2,none⟩ (.int .i64 r)).setCell ⟨b7,3,none⟩ (.bool ok)) = VS at *
 walk_nrm
 refine mu_region_end mu_will ?_
 refine hK0 _ VS ?_ ?_ hnS ⟨by omega,fun b hb=>(kS b (by omega)).trans (kA.keep b hb)⟩ (by omega) eS
 · exact ⟨by simp,rfl,rfl,rfl,rfl,rfl,rfl⟩
 · rfl
end
end Go.Proofs.Ytibcdikfbhmheaa

namespace Go.Proofs.Ytibcdikfbhmheaa
open Go Go.Conc Go.Proofs
open Go.ConcN (sumTo upd sumTo_upd upd_ne upd_same)
set_option linter.unusedVariables false
noncomputable def fk3 : List Item:=[.code fy4,.inBlock 1,.code fr2,.inLoop L29,.inBlock 0]
def FLoc (D : Ae) (C : Cw) (s : AM) (i : Nat) (cs : List Frame) : Prop:=∃ k x b6 fs T,s.t i = k + 1 ∧ (D.acts i)[k]? = some x ∧ DoFr D.ab x b6 fs ∧ HF D i k (C.tp i) T ∧ cs = fs ++ [(base 29).at ⟨T,[]⟩ (.inRegion fo3 [8,9,10] :: fk3)]
def HasB (b6 : Nat) (cs : List Frame) : Prop:=∃ f ∈ cs,f.fn = 30 ∧ f.tmps[6]? = some (bq b6)
def BoxB (D : Ae) (V : World) (b : Nat) : Prop:=D.Vr.heap.size ≤ b ∧ (∃ c0 c1 c2 c3,V.heap[b]? = some (.cells #[c0,c1,c2,c3] 67 (0,0))) ∧ ∀ lv,V.heap[D.gb]? = some (.cells #[lv] 65 (0,0)) → lv.ownBlock ≠ some b
def AMem (D : Ae) (cs : List Frame) (own : Nat → Prop) (V : World) : Prop:=own D.gb ∧ ∀ b,HasB b cs → own b ∧ BoxB D V b
noncomputable def Uam (D : Ae) (C : Cw) : Usr:={ S:=AM,inv:=EInv D,st:=amst D.acts,loc:=FLoc D C,turn:=aturn D.acts,fid:=fun _=>29,first:=fun _=>#[],caps:=fun i=>#[bq D.tb,bq (D.ix i),bq D.ab,bq D.gb],mem:=AMem D }
theorem bq_inj {a b : Nat} (h : bq a = bq b) : a = b:=by
 unfold bq at h
 injection h with h
 injection h with h
 injection h
theorem DoFr.has {ab : Nat} {x : Int × Int × Int} {b6 b : Nat} {fs : List Frame} {g : Frame} (h : DoFr ab x b6 fs) (hg : g.fn ≠ 30) (hb : HasB b (fs ++ [g])) : b = b6:=by
 obtain ⟨f,hf,h1,h2⟩:=hb
 have two : ∀ {p q : Frame},f ∈ [p,q] ++ [g] → p.fn ≠ 30 → q.tmps[6]? = some (bq b6) → b = b6:=fun {p q} hm hp hq=>by
   rcases (by simpa using hm : f = p ∨ f = q ∨ f = g) with rfl | rfl | rfl
   · exact absurd h1 hp
   · rw [hq] at h2
     exact (bq_inj (Option.some.inj h2)).symm
   · exact absurd h1 hg
 rcases h with ⟨_,T,T',_,_,_,t,rfl⟩ | ⟨_,T,T',_,_,_,_,t,rfl⟩ | ⟨_,T,T',_,_,_,_,_,t,rfl⟩ | ⟨_,T',_,t,rfl⟩
 · exact two hf (by show (41 : Nat) ≠ 30; decide) t
 · exact two hf (by show (34 : Nat) ≠ 30; decide) t
 · exact two hf (by show (40 : Nat) ≠ 30; decide) t
 · rcases (by simpa using hf : f = D8 T' ∨ f = g) with rfl | rfl
   · have : (D8 T').tmps[6]? = some (bq b6):=t
     rw [this] at h2
     exact (bq_inj (Option.some.inj h2)).symm
   · exact absurd h1 hg
theorem DoFr.in_ {ab : Nat} {x : Int × Int × Int} {b6 : Nat} {fs : List Frame} {gs : List Frame} (h : DoFr ab x b6 fs) : HasB b6 (fs ++ gs):=by
 rcases h with ⟨_,T,T',_,_,_,t,rfl⟩ | ⟨_,T,T',_,_,_,_,t,rfl⟩ | ⟨_,T,T',_,_,_,_,_,t,rfl⟩ | ⟨_,T',_,t,rfl⟩
 · exact ⟨D3 T',by simp,rfl,t⟩
 · exact ⟨D5 T',by simp,rfl,t⟩
 · exact ⟨D7 T',by simp,rfl,t⟩
 · exact ⟨D8 T',by simp,rfl,t⟩
theorem DoFr.uf {ab : Nat} {x : Int × Int × Int} {b6 : Nat} {fs : List Frame} (h : DoFr ab x b6 fs) : ∀ f ∈ fs,UF f:=by
 have u1 : ∀ T,UF (A41 T):=fun T=>uf_at rfl rfl rfl ⟨_,Try.func41⟩
 have u2 : ∀ T,UF (A34 T):=fun T=>uf_at rfl rfl rfl ⟨_,Try.func34⟩
 have u3 : ∀ T,UF (A40 T):=fun T=>uf_at rfl rfl rfl ⟨_,Try.func40⟩
 have d1 : ∀ T,UF (D3 T):=fun T=>uf_at rfl rfl rfl ⟨_,Try.func30⟩
 have d2 : ∀ T,UF (D5 T):=fun T=>uf_at rfl rfl rfl ⟨_,Try.func30⟩
 have d3 : ∀ T,UF (D7 T):=fun T=>uf_at rfl rfl rfl ⟨_,Try.func30⟩
 have d4 : ∀ T,UF (D8 T):=fun T=>uf_at rfl rfl rfl ⟨_,Try.func30⟩
 rcases h with ⟨_,T,T',_,_,_,t,rfl⟩ | ⟨_,T,T',_,_,_,_,t,rfl⟩ | ⟨_,T,T',_,_,_,_,_,t,rfl⟩ | ⟨_,T',_,t,rfl⟩
 · intro f hf
   rcases (by simpa using hf : f = A41 T ∨ f = D3 T') with rfl | rfl
   · exact u1 _
   · exact d1 _
 · intro f hf
   rcases (by simpa using hf : f = A34 T ∨ f = D5 T') with rfl | rfl
   · exact u2 _
   · exact d2 _
 · intro f hf
   rcases (by simpa using hf : f = A40 T ∨ f = D7 T') with rfl | rfl
   · exact u3 _
   · exact d3 _
 · intro f hf
   obtain rfl : f = D8 T':=by simpa using hf
   exact d4 _
def nvA (x : Int × Int × Int) (v : Int) : Int:=if x.1 = 1 then IntKind.i64.wrap (v + x.2.1) else if x.1 = 2 ∧ v = x.2.2 then x.2.1 else v
def rvA (x : Int × Int × Int) (v : Int) : Int:=if x.1 = 0 then v else if x.1 = 1 then IntKind.i64.wrap (v + x.2.1) else 0
def okA (x : Int × Int × Int) (v : Int) : Bool:=decide (x.1 = 2 ∧ v = x.2.2)
theorem aop_eq {x : Int × Int × Int} (hx : x.1 = 0 ∨ x.1 = 1 ∨ x.1 = 2 ∨ x.1 = 3) (i k : Nat) (s : AM) : (aop x i k s).v = nvA x s.v ∧ (aop x i k s).log = if x.1 = 3 then s.log else s.log ++ [((i,k),(rvA x s.v,okA x s.v))]:=by
 obtain ⟨d,n,o⟩:=x
 unfold aop nvA rvA okA
 rcases hx with h | h | h | h
 · obtain rfl : d = 0:=h
   exact ⟨by simp,by simp⟩
 · obtain rfl : d = 1:=h
   exact ⟨by simp,by simp⟩
 · obtain rfl : d = 2:=h
   by_cases hv : s.v = o
   · exact ⟨by simp [hv],by simp [hv]⟩
   · exact ⟨by simp [hv],by simp [hv]⟩
 · obtain rfl : d = 3:=h
   exact ⟨by simp,by simp⟩
section
variable {V : World} {main : Bool} {Z : Cuts} {Stop : Goroutine → World → Prop} {ab b6 : Nat} {cs : List Frame} {b₀ : Frame} {a₀ : Act} {ops₀ : Array Oper} {i₀ : Nat} {rest₀ : List Nat} {k₀ : List Item} {v : Int} {c0 c1 c2 c3 : Value}
theorem do_out (hn : norm V = V) (num : V.heap[ab]? = some (.cells #[.int .i64 v] 64 (0,0))) (e6 : V.heap[b6]? = some (.cells #[c0,c1,c2,c3] 67 (0,0))) {x : Int × Int × Int} {fs : List Frame} (h : DoFr ab x b6 fs)
   {b : Frame} {a : Act} {ops : Array Oper} {j : Nat} {rest : List Nat} {k : List Item} {cs1 : List Frame} (he : fs = b.at a (.inRegion ops (j :: rest) :: k) :: cs1)
   (K : ∀ V',norm V' = V' → V'.heap.size = V.heap.size → (∀ b,b ≠ ab → b ≠ b6 → V'.heap[b]? = V.heap[b]?) → V'.heap[ab]? = some (.cells #[.int .i64 (nvA x v)] 64 (0,0)) → V'.heap[b6]? = some (.cells #[.int .i64 0,.int .i64 0,.int .i64 (rvA x v),.bool (okA x v)] 67 (0,0)) → Will Try.prog main Z Stop (G (b₀.at (a₀.put ((ops₀[i₀]?).bind (·.dst)) (.agg #[.int .i64 0,.int .i64 0,.int .i64 (rvA x v),.bool (okA x v)])) (.inRegion ops₀ rest₀ :: k₀)) cs) V') :
   Will Try.prog main Z Stop (G (b.at (a.put ((ops[j]?).bind (·.dst)) (.tuple #[])) (.inRegion ops rest :: k)) (cs1 ++ b₀.at a₀ (.inRegion ops₀ (i₀ :: rest₀) :: k₀) :: cs)) V:=by
 obtain ⟨d,n,o⟩:=x
 rcases h with ⟨hd,T,T',hs,t0,hs',t6,rfl⟩ | ⟨hd,T,T',hs,t0,t2,hs',t6,rfl⟩ | ⟨hd,T,T',hs,t0,t2,t3,hs',t6,rfl⟩ | ⟨hd,T',hs',t6,rfl⟩
 · obtain rfl : d = 0:=hd
   obtain ⟨e1,rfl⟩:=List.cons.inj he
   obtain ⟨rfl,e2,e3⟩:=at_inj e1
   obtain ⟨rfl,e4,rfl⟩:=item_inj e2
   obtain ⟨rfl,rfl⟩:=List.cons.inj e4
   rw [← e3]
   exact do_out0 hn num e6 hs t0 hs' t6 K
 · obtain rfl : d = 1:=hd
   obtain ⟨e1,rfl⟩:=List.cons.inj he
   obtain ⟨rfl,e2,e3⟩:=at_inj e1
   obtain ⟨rfl,e4,rfl⟩:=item_inj e2
   obtain ⟨rfl,rfl⟩:=List.cons.inj e4
   rw [← e3]
   exact do_out1 hn num e6 hs t0 t2 hs' t6 K
 · obtain rfl : d = 2:=hd
   obtain ⟨e1,rfl⟩:=List.cons.inj he
   obtain ⟨rfl,e2,e3⟩:=at_inj e1
   obtain ⟨rfl,e4,rfl⟩:=item_inj e2
   obtain ⟨rfl,rfl⟩:=List.cons.inj e4
   rw [← e3]
   by_cases hv : v = o
   · have w1 : nvA (2,n,o) v = n:=by simp [nvA,hv]
     have w2 : rvA (2,n,o) v = 0:=by simp [rvA]
     have w3 : okA (2,n,o) v = true:=by simp [okA,hv]
     rw [w1,w2,w3] at K
     exact do_out2 hn num e6 hs t0 hv t2 t3 hs' t6 K
   · have w1 : nvA (2,n,o) v = v:=by simp [nvA,hv]
     have w2 : rvA (2,n,o) v = 0:=by simp [rvA]
     have w3 : okA (2,n,o) v = false:=by simp [okA,hv]
     rw [w1,w2,w3] at K
     exact do_out4 hn num e6 hs t0 hv t2 t3 hs' t6 K
 · obtain rfl : d = 3:=hd
   obtain ⟨e1,rfl⟩:=List.cons.inj he
   obtain ⟨rfl,e2,e3⟩:=at_inj e1
   obtain ⟨rfl,e4,rfl⟩:=item_inj e2
   obtain ⟨rfl,rfl⟩:=List.cons.inj e4
   rw [← e3]
   exact do_out3 hn num e6 hs' t6 K
end
theorem EInv.mono {D : Ae} {s : AM} {own own' : Nat → Prop} {V : World} (h : EInv D s own V) (k : ∀ b,own b → own' b) : EInv D s own' V:=by
 obtain ⟨lv,h1,h2,h3⟩:=h.log
 exact ⟨h.sz,h.num,⟨lv,h1,h2,fun b hb=>⟨k b (h3 b hb).1,(h3 b hb).2⟩⟩,fun b hb=>⟨k b (h.old b hb).1,(h.old b hb).2⟩,h.le,h.cnt⟩
structure Mid (D : Ae) (s : AM) (own : Nat → Prop) (V₀ V : World) : Prop where
 nrm : norm V = V
 sz : V₀.heap.size ≤ V.heap.size
 keep : ∀ b,b < V₀.heap.size → ¬ own b → V.heap[b]? = V₀.heap[b]?
 inv : EInv D s (fun b=>own b ∨ (V₀.heap.size ≤ b ∧ b < V.heap.size)) V
 box : ∀ b,own b → BoxB D V₀ b → BoxB D V b
section
variable {D : Ae} {s s' : AM} {own : Nat → Prop} {V₀ V V' : World}
theorem Mid.kp (O : AeOk D) (hown : ∀ b,own b → b < V₀.heap.size) (M : Mid D s own V₀ V) (hk : Kp V V') (hn : norm V' = V') : Mid D s own V₀ V':=by
 have hlt : ∀ b,own b → b < V.heap.size:=fun b hb=>Nat.lt_of_lt_of_le (hown b hb) M.sz
 refine ⟨hn,Nat.le_trans M.sz hk.size,fun b hb ho=>(hk.keep b (Nat.lt_of_lt_of_le hb M.sz)).trans (M.keep b hb ho),?_,fun b ho hb=>?_⟩
 · refine (M.inv.frame O.ab.1 O.gb (fun b hb=>hk.keep b ?_) hk.size).mono fun b hb=>hb.imp id fun h=>⟨h.1,Nat.lt_of_lt_of_le h.2 hk.size⟩
   rcases hb with h | h
   · exact hlt b h
   · exact h.2
 · obtain ⟨h1,⟨c0,c1,c2,c3,h2⟩,h3⟩:=M.box b ho hb
   refine ⟨h1,⟨c0,c1,c2,c3,(hk.keep b (hlt b ho)).trans h2⟩,fun lv hl=>h3 lv ?_⟩
   have hg:=O.gb
   have:=M.inv.sz
   rw [hk.keep D.gb (by omega)] at hl
   exact hl
theorem Mid.zero (hn : norm V = V) (hown : ∀ b,own b → b < V.heap.size) (A : EInv D s own V) (hv : s'.v = s.v) (hl : s'.log = s.log) (hle : ∀ i,i < D.n → s'.t i ≤ (D.acts i).length + 1) (hcnt : s'.log.length ≤ sumTo D.n s'.t) : Mid D s' own V V:=by
 obtain ⟨lv,h1,h2,h3⟩:=A.log
 exact ⟨hn,Nat.le_refl _,fun _ _ _=>rfl,⟨A.sz,by rw [hv]; exact A.num,⟨lv,h1,by rw [hl]; exact h2,fun b hb=>⟨.inl (h3 b hb).1,(h3 b hb).2⟩⟩,fun b hb=>⟨.inl (A.old b hb).1,(A.old b hb).2⟩,hle,hcnt⟩,fun _ _ h=>h⟩
theorem Mid.act (O : AeOk D) (hown : ∀ b,own b → b < V.heap.size) (A : EInv D s own V) {b6 : Nat} (hb6 : own b6) (hB : BoxB D V b6) {lv lv' : Value} (hg : V.heap[D.gb]? = some (.cells #[lv] 65 (0,0))) (hn : norm V' = V') (hs : V.heap.size ≤ V'.heap.size)
   (hk : ∀ b,b < V.heap.size → b ≠ D.ab → b ≠ D.gb → b ≠ b6 → lv.ownBlock ≠ some b → V'.heap[b]? = V.heap[b]?) (hnum : V'.heap[D.ab]? = some (.cells #[.int .i64 s'.v] 64 (0,0))) (hg' : V'.heap[D.gb]? = some (.cells #[lv'] 65 (0,0))) (hrow : V'.ownsRow 0 67 4 lv' s'.log.length (ents s'.log)) (hlv : ∀ b,lv'.ownBlock = some b → lv.ownBlock = some b ∨ V.heap.size ≤ b) {c0 c1 c2 c3 : Value} (h6 : V'.heap[b6]? = some (.cells #[c0,c1,c2,c3] 67 (0,0)))
   (hle : ∀ i,i < D.n → s'.t i ≤ (D.acts i).length + 1) (hcnt : s'.log.length ≤ sumTo D.n s'.t) : Mid D s' own V V':=by
 obtain ⟨lv0,g1,g2,g3⟩:=A.log
 obtain rfl : lv0 = lv:=by
   rw [hg] at g1
   injection g1 with g1
   injection g1 with g1
   injection g1 with g1
   injection g1 with g1
   exact g1.symm
 have hgo:=A.old _ O.gb
 have hao:=A.old _ O.ab.1
 obtain ⟨hb1,_,hb3⟩:=hB
 have hgn:=hb3 _ hg
 refine ⟨hn,hs,fun b hb ho=>hk b hb (fun e=>ho (e ▸ hao.1)) (fun e=>ho (e ▸ hgo.1)) (fun e=>ho (e ▸ hb6)) (fun e=>ho (g3 b e).1),⟨Nat.le_trans A.sz hs,hnum,⟨lv',hg',hrow,fun b hb=>?_⟩,fun b hb=>⟨.inl (A.old b hb).1,fun h1 h2=>?_⟩,hle,hcnt⟩,fun b ho hb=>?_⟩
 · rcases hlv b hb with h | h
   · exact ⟨.inl (g3 b h).1,(g3 b h).2⟩
   · exact ⟨.inr ⟨h,row_at hrow hb⟩,Nat.le_trans A.sz h⟩
 · rw [hk b (Nat.lt_of_lt_of_le hb A.sz) h1 h2 (by omega) (fun e=>by have:=(g3 b e).2; omega)]
   exact (A.old b hb).2 h1 h2
 · obtain ⟨k1,⟨d0,d1,d2,d3,k2⟩,k3⟩:=hb
   have hlt:=hown b ho
   refine ⟨k1,?_,fun l hl=>?_⟩
   · by_cases e : b = b6
     · subst e; exact ⟨_,_,_,_,h6⟩
     · have hab:=O.ab.1
       have hgb:=O.gb
       exact ⟨d0,d1,d2,d3,(hk b hlt (by omega) (by omega) e (k3 _ hg)).trans k2⟩
   · rw [hg'] at hl
     injection hl with hl
     injection hl with hl
     injection hl with hl
     injection hl with hl
     subst hl
     intro e
     rcases hlv b e with h | h
     · exact k3 _ hg h
     · omega
end
end Go.Proofs.Ytibcdikfbhmheaa

namespace Go.Proofs.Ytibcdikfbhmheaa
open Go Go.Conc Go.Proofs
open Go.ConcN (sumTo upd sumTo_upd upd_ne upd_same)
set_option linter.unusedVariables false
theorem cond_atA {T : Array Value} {j : Nat} {b : Bool} (h : T[j]? = some (.bool b)) : (⟨T,[]⟩ : Act).eval (.tmp j) = .bool b:=by
 show T.getD j undef = _
 simp [Array.getD_eq_getD_getElem?,h]
def ActsOk (D : Ae) : Prop:=∀ j,j < D.n → ∀ x ∈ D.acts j,x.1 = 0 ∨ x.1 = 1 ∨ x.1 = 2 ∨ x.1 = 3
theorem aturn_at {acts : Nat → List (Int × Int × Int)} {σ : AM} {i k : Nat} {x : Int × Int × Int} (ht : σ.t i = k + 1) (hk : (acts i)[k]? = some x) (hx : x.1 = 0 ∨ x.1 = 1 ∨ x.1 = 2 ∨ x.1 = 3) :
   (aturn acts σ i).v = nvA x σ.v ∧ (aturn acts σ i).log = if x.1 = 3 then σ.log else σ.log ++ [((i,k),(rvA x σ.v,okA x σ.v))]:=by
 have e : (acts i).getD (σ.t i - 1) (3,0,0) = x:=by rw [ht]; simp [List.getD_eq_getElem?_getD,hk]
 have e2 : σ.t i - 1 = k:=by omega
 unfold aturn
 rw [if_neg (by omega),e,e2]
 exact aop_eq hx i k σ
theorem sum_up {n i : Nat} (hi : i < n) (t : Nat → Nat) : sumTo n (upd t i (t i + 1)) = sumTo n t + 1:=by
 have:=sumTo_upd t (t i + 1) id hi
 simp only [id] at this
 have e1 : sumTo n (fun a=>upd t i (t i + 1) a) = sumTo n (upd t i (t i + 1)):=rfl
 have e2 : sumTo n (fun a=>t a) = sumTo n t:=rfl
 omega
theorem sum_bound {f : Nat → Nat} {c : Nat} : ∀ {n : Nat},(∀ i,i < n → f i ≤ c) → sumTo n f ≤ n * c
 | 0,_=>by simp [sumTo]
 | n + 1,h=>by
   have h1:=sum_bound (n:=n) fun i hi=>h i (by omega)
   have h2:=h n (by omega)
   simp only [sumTo]
   rw [Nat.add_mul,Nat.one_mul]
   omega
theorem ents_snoc (l : List ((Nat × Nat) × (Int × Bool))) (i k : Nat) (r : Int) (ok : Bool) : ents (l ++ [((i,k),(r,ok))]) = ents l ++ [.int .i64 (i : Int),.int .i64 (k : Int),.int .i64 r,.bool ok]:=by simp [ents]
theorem rd_of {D : Ae} (O : AeOk D) {i : Nat} (hi : i < D.n) {V : World} (h : ∀ b,b < D.Vr.heap.size → b ≠ D.ab → b ≠ D.gb → V.heap[b]? = D.Vr.heap[b]?) : ∃ g o,Rd D i V g o:=by
 obtain ⟨t1,t2,t3,t4⟩:=O.tb
 obtain ⟨j1,j2,j3,j4⟩:=O.ix i hi
 obtain ⟨g,o,e,g1,g2,g3,g4⟩:=O.out (by omega)
 exact ⟨g,o,by rw [← e]; exact cell_of ((h _ t1 t2 t3).trans t4) (by simp),cell_of ((h _ j1 j2 j3).trans j4) (by simp),cell_keep (g4 i hi) (h g g1 g2 g3)⟩
theorem rd_act {D : Ae} (O : AeOk D) {i k : Nat} (hi : i < D.n) {x : Int × Int × Int} (hx : (D.acts i)[k]? = some x) {V : World} (h : ∀ b,b < D.Vr.heap.size → b ≠ D.ab → b ≠ D.gb → V.heap[b]? = D.Vr.heap[b]?) :
   ∃ g o,D.ra i = some ⟨g,o,none⟩ ∧ V.cell? ⟨g,o + k * 3,none⟩ = some (.int .i64 x.1) ∧ V.cell? ⟨g,o + k * 3 + 1,none⟩ = some (.int .i64 x.2.1) ∧ V.cell? ⟨g,o + k * 3 + 2,none⟩ = some (.int .i64 x.2.2):=by
 obtain ⟨hk,hx'⟩:=List.getElem?_eq_some_iff.1 hx
 obtain ⟨g,o,e,g1,g2,g3,g4⟩:=O.inn i hi (by omega)
 obtain ⟨a,b,c⟩:=g4 k hk
 rw [hx'] at a b c
 exact ⟨g,o,e,cell_keep a (h g g1 g2 g3),cell_keep b (h g g1 g2 g3),cell_keep c (h g g1 g2 g3)⟩
section
variable {D : Ae} {C : Cw} {E : Env} {i k : Nat} {own : Nat → Prop} {V V₀ : World} {σ : AM} {a₁ : Act} {ops₁ : Array Oper} {i₁ : Nat} {rest₁ : List Nat} {k₁ : List Item} {T : Array Value}
theorem Mid.hold (M : Mid D σ own V₀ V) : ∀ b,b < D.Vr.heap.size → b ≠ D.ab → b ≠ D.gb → V.heap[b]? = D.Vr.heap[b]?:=fun b hb=>(M.inv.old b hb).2
theorem Mid.end_ (hown : ∀ b,own b → b < V₀.heap.size ∧ b ≠ C.cb ∧ ∀ j,j < C.n → b ≠ C.tb j) (H : CwAt C false (upd (amst D.acts (aturn D.acts σ i)) i 1) V₀) (M : Mid D (aturn D.acts σ i) own V₀ V) : CwAt C false (upd (amst D.acts (aturn D.acts σ i)) i 1) V :=
 H.keep (M.keep _ (Array.getElem?_eq_some_iff.1 H.crew).1 fun h=>(hown _ h).2.1 rfl) fun j hj=>M.keep _ (Array.getElem?_eq_some_iff.1 (H.thr j hj)).1 fun h=>(hown _ h).2.2 j hj rfl
theorem Mid.mem (O : AeOk D) (hown : ∀ b,own b → b < V₀.heap.size) (M : Mid D (aturn D.acts σ i) own V₀ V) : ∀ cs,AMem D cs own V₀ → AMem D cs (fun b=>own b ∨ (V₀.heap.size ≤ b ∧ b < V.heap.size)) V:=fun cs h=>⟨.inl h.1,fun b hb=>⟨.inl (h.2 b hb).1,M.box b (h.2 b hb).1 (h.2 b hb).2⟩⟩
theorem af_go (O : AeOk D) (hA : ActsOk D) (hi : i < C.n) (hnC : C.n = D.n) (hown : ∀ b,own b → b < V₀.heap.size ∧ b ≠ C.cb ∧ ∀ j,j < C.n → b ≠ C.tb j) (hgo : own D.gb) (H : CwAt C false (upd (amst D.acts (aturn D.acts σ i)) i 1) V₀) (M : Mid D (aturn D.acts σ i) own V₀ V) (hk : σ.t i = k) (hkl : k ≤ (D.acts i).length) (hT : HF D i k (C.tp i) T) :
   Will Try.prog false E.Z (TEndM C (Uam D C) σ i own V₀ ((baseD 141).at a₁ (.inRegion ops₁ (i₁ :: rest₁) :: k₁))) (G ((base 29).at ⟨T,[]⟩ [.code L29,.inLoop L29,.inBlock 0]) [(baseD 141).at a₁ (.inRegion ops₁ (i₁ :: rest₁) :: k₁),rootF]) V:=by
 have hiD : i < D.n:=by omega
 have hlen:=O.len i hiD
 have hown1 : ∀ b,own b → b < V₀.heap.size:=fun b hb=>(hown b hb).1
 have ht : (aturn D.acts σ i).t i = k + 1:=by rw [aturn_t,upd_same,hk]
 obtain ⟨g,o,hR⟩:=rd_of O hiD M.hold
 refine (fun (h : ∀ Y,Y = L29 → Will Try.prog false E.Z (TEndM C (Uam D C) σ i own V₀ ((baseD 141).at a₁ (.inRegion ops₁ (i₁ :: rest₁) :: k₁))) (G ((base 29).at ⟨T,[]⟩ [.code Y,.inLoop L29,.inBlock 0]) [(baseD 141).at a₁ (.inRegion ops₁ (i₁ :: rest₁) :: k₁),rootF]) V)=>h L29 rfl) ?_
 intro Y hY
 rw [L29_eq] at hY
 subst hY
 refine mu_seq mu_will (mu_seq mu_will ?_)
 refine af_r1 M.nrm hiD hR hT fun T' hT' h14=>?_
 by_cases hx : k < (D.acts i).length
 · rw [show decide ((k : Int) < ((D.acts i).length : Int)) = true from decide_eq_true (by omega)] at h14
   refine mu_cond mu_will true (cond_atA h14) ?_
   refine mu_skip mu_will (mu_seq mu_will (mu_block mu_will (mu_seq mu_will ?_)))
   obtain ⟨x,hx'⟩ : ∃ x,(D.acts i)[k]? = some x:=⟨_,List.getElem?_eq_getElem hx⟩
   obtain ⟨g2,o2,hra,c4,c5,c6⟩:=rd_act O hiD hx' M.hold
   have hxk:=hA i hiD x (List.mem_of_getElem? hx')
   refine af_call (kt:=fk3) M.nrm hiD hx hR hra c4 c5 c6 hT' fun T2 hT2=>?_
   refine do_in M.nrm hxk fun fs V' b6 hfs hn' hkp hb1 hb2 hb3=>?_
   have M':=M.kp O hown1 hkp hn'
   have hst : amst D.acts (aturn D.acts σ i) i = 1:=by unfold amst; rw [ht,if_neg (by omega),if_pos (by omega)]
   have hgV : D.gb < V.heap.size:=Nat.lt_of_lt_of_le (hown1 _ hgo) M.sz
   refine Will.stop ⟨hn',M'.sz,fun b hb ho _=>M'.keep b hb ho,M'.end_ hown H,_,M'.inv,fun b hb=>?_,M'.mem O hown1,.inl ⟨hst,?_⟩⟩
   · rcases hb with h | h
     · exact ⟨.inl h,Nat.lt_of_lt_of_le (hown1 b h) M'.sz⟩
     · exact ⟨.inr h.1,h.2⟩
   · obtain ⟨f,cs1,hfc⟩ : ∃ f cs1,fs = f :: cs1:=by
       rcases hfs with ⟨_,T,T',_,_,_,t,rfl⟩ | ⟨_,T,T',_,_,_,_,t,rfl⟩ | ⟨_,T,T',_,_,_,_,_,t,rfl⟩ | ⟨_,T',_,t,rfl⟩ <;> exact ⟨_,_,rfl⟩
     have e1 : fs ++ (base 29).at ⟨T2,[]⟩ (.inRegion fo3 [8,9,10] :: fk3) :: [(baseD 141).at a₁ (.inRegion ops₁ (i₁ :: rest₁) :: k₁),rootF] = f :: (cs1 ++ [(base 29).at ⟨T2,[]⟩ (.inRegion fo3 [8,9,10] :: fk3)]) ++ [(baseD 141).at a₁ (.inRegion ops₁ (i₁ :: rest₁) :: k₁),rootF]:=by rw [hfc]; simp
     have e2 : f :: (cs1 ++ [(base 29).at ⟨T2,[]⟩ (.inRegion fo3 [8,9,10] :: fk3)]) = fs ++ [(base 29).at ⟨T2,[]⟩ (.inRegion fo3 [8,9,10] :: fk3)]:=by rw [hfc]; rfl
     refine ⟨f,cs1 ++ [(base 29).at ⟨T2,[]⟩ (.inRegion fo3 [8,9,10] :: fk3)],congrArg (G _) e1,⟨k,x,b6,fs,T2,ht,hx',hfs,hT2,e2⟩,.inl hgo,fun b hb=>?_⟩
     rw [e2] at hb
     have hb':=hfs.has (by show (29 : Nat) ≠ 30; decide) hb
     subst hb'
     have hVr:=M.inv.sz
     refine ⟨.inr ⟨Nat.le_trans M.sz hb1,hb2⟩,by omega,⟨_,_,_,_,hb3⟩,fun lv hl e=>?_⟩
     obtain ⟨lv0,l1,l2,l3⟩:=M.inv.log
     rw [hkp.keep _ hgV,l1] at hl
     injection hl with hl
     injection hl with hl
     injection hl with hl
     injection hl with hl
     subst hl
     have:=row_at l2 e
     omega
 · rw [show decide ((k : Int) < ((D.acts i).length : Int)) = false from decide_eq_false (by omega)] at h14
   refine mu_cond mu_will false (cond_atA h14) ?_
   refine mu_exit mu_will rfl ?_
   refine mu_end mu_will ?_
   refine mu_leave0 mu_will rfl rfl Try.func29 rfl ?_
   have hst : amst D.acts (aturn D.acts σ i) i = 3:=by unfold amst; rw [ht,if_neg (by omega),if_neg (by omega)]
   refine Will.stop ⟨M.nrm,M.sz,fun b hb ho _=>M.keep b hb ho,M.end_ hown H,_,M.inv,fun b hb=>?_,M.mem O hown1,.inr (.inr ⟨hst,.inl ⟨_,a₁,ops₁,i₁,rest₁,k₁,rfl,rfl⟩⟩)⟩
   rcases hb with h | h
   · exact ⟨.inl h,Nat.lt_of_lt_of_le (hown1 b h) M.sz⟩
   · exact ⟨.inr h.1,h.2⟩
theorem st_but {acts : Nat → List (Int × Int × Int)} (σ : AM) (i : Nat) (y : Int) : upd (amst acts (aturn acts σ i)) i y = upd (amst acts σ) i y:=by
 funext j
 by_cases e : j = i
 · subst e; rw [upd_same,upd_same]
 · rw [upd_ne _ _ e,upd_ne _ _ e,amst_other acts σ e]
theorem uam_start (O : AeOk D) (hA : ActsOk D) (hi : i < C.n) (hnC : C.n = D.n) (hs : amst D.acts σ i = 0) (hn : norm V = V) (H : CwAt C false (upd (amst D.acts σ) i 1) V) (A : EInv D σ own V) (hown : ∀ b,own b → b < V.heap.size ∧ b ≠ C.cb ∧ ∀ j,j < C.n → b ≠ C.tb j) :
   Will Try.prog false E.Z (TEndM C (Uam D C) σ i own V ((baseD 141).at a₁ (.inRegion ops₁ (i₁ :: rest₁) :: k₁))) (G (Frame.enter Try.prog 29 #[C.tp i,bq D.tb,bq (D.ix i),bq D.ab,bq D.gb] .normal) [(baseD 141).at a₁ (.inRegion ops₁ (i₁ :: rest₁) :: k₁),rootF]) V:=by
 have hiD : i < D.n:=by omega
 have h0 : σ.t i = 0:=by
   unfold amst at hs
   split at hs
   · assumption
   · split at hs <;> omega
 have e : aturn D.acts σ i = { σ with t:=upd σ.t i (σ.t i + 1) }:=by unfold aturn; rw [if_pos h0]
 have M : Mid D (aturn D.acts σ i) own V V:=Mid.zero hn (fun b hb=>(hown b hb).1) A (by rw [e]) (by rw [e]) (fun j hj=>by
   rw [e]
   show upd σ.t i (σ.t i + 1) j ≤ _
   by_cases e : j = i
   · subst e; rw [upd_same]; omega
   · rw [upd_ne _ _ e]; exact A.le j hj) (by
   rw [e]
   show σ.log.length ≤ sumTo D.n (upd σ.t i (σ.t i + 1))
   rw [sum_up hiD]
   have:=A.cnt
   omega)
 rw [enter_at (P:=Try.prog) _ Try.func29 rfl]
 refine (fun (h : ∀ T : Array Value,(T.size = 43 ∧ T[0]? = some (C.tp i) ∧ T[1]? = some (bq D.tb) ∧ T[2]? = some (bq (D.ix i)) ∧ T[3]? = some (bq D.ab) ∧ T[4]? = some (bq D.gb)) → Will Try.prog false E.Z (TEndM C (Uam D C) σ i own V ((baseD 141).at a₁ (.inRegion ops₁ (i₁ :: rest₁) :: k₁))) (G ((base 29).at ⟨T,[]⟩ [.code B29]) [(baseD 141).at a₁ (.inRegion ops₁ (i₁ :: rest₁) :: k₁),rootF]) V)=>h _ ⟨by simp [Try.f29],by simp,by simp,by simp,by simp,by simp⟩) ?_
 intro T hT
 rw [B29_eq]
 refine mu_seq mu_will ?_
 refine af_r0 (D:=D) (i:=i) (tp:=C.tp i) hn hiD hT fun T' hT'=>?_
 refine mu_block mu_will (mu_loop mu_will ?_)
 exact af_go O hA hi hnC hown (A.old _ O.gb).1 (by rw [st_but]; exact H) M h0 (Nat.zero_le _) hT'
theorem uam_resume (O : AeOk D) (hA : ActsOk D) (hi : i < C.n) (hnC : C.n = D.n) {b : Frame} {a : Act} {ops : Array Oper} {i₀ : Nat} {rest : List Nat} {kk : List Item} {cs : List Frame} (hs : amst D.acts σ i = 1) (hl : FLoc D C σ i (b.at a (.inRegion ops (i₀ :: rest) :: kk) :: cs)) (hm : AMem D (b.at a (.inRegion ops (i₀ :: rest) :: kk) :: cs) own V) (hn : norm V = V) (H : CwAt C false (amst D.acts σ) V) (A : EInv D σ own V) (hown : ∀ b,own b → b < V.heap.size ∧ b ≠ C.cb ∧ ∀ j,j < C.n → b ≠ C.tb j) :
   Will Try.prog false E.Z (TEndM C (Uam D C) σ i own V ((baseD 141).at a₁ (.inRegion ops₁ (i₁ :: rest₁) :: k₁))) (G (b.at (a.put ((ops[i₀]?).bind (·.dst)) (.tuple #[])) (.inRegion ops rest :: kk)) (cs ++ [(baseD 141).at a₁ (.inRegion ops₁ (i₁ :: rest₁) :: k₁),rootF])) V:=by
 have hiD : i < D.n:=by omega
 have hown1 : ∀ b,own b → b < V.heap.size:=fun b hb=>(hown b hb).1
 obtain ⟨k,x,b6,fs,T,ht,hx,hfs,hT,he⟩:=hl
 obtain ⟨hgo,hmb⟩:=hm
 rw [he] at hmb
 obtain ⟨hb6,hB⟩:=hmb b6 hfs.in_
 obtain ⟨hVr6,⟨c0,c1,c2,c3,e6⟩,hB3⟩:=hB
 have hxk:=hA i hiD x (List.mem_of_getElem? hx)
 have hk : k < (D.acts i).length:=(List.getElem?_eq_some_iff.1 hx).1
 have hlen:=O.len i hiD
 obtain ⟨f,cs1,hfc⟩ : ∃ f cs1,fs = f :: cs1:=by
   rcases hfs with ⟨_,T,T',_,_,_,t,rfl⟩ | ⟨_,T,T',_,_,_,_,t,rfl⟩ | ⟨_,T,T',_,_,_,_,_,t,rfl⟩ | ⟨_,T',_,t,rfl⟩ <;> exact ⟨_,_,rfl⟩
 have he' : b.at a (.inRegion ops (i₀ :: rest) :: kk) :: cs = f :: (cs1 ++ [(base 29).at ⟨T,[]⟩ (.inRegion fo3 [8,9,10] :: fk3)]):=by rw [he,hfc]; rfl
 obtain ⟨ef,rfl⟩:=List.cons.inj he'
 have hfe : fs = b.at a (.inRegion ops (i₀ :: rest) :: kk) :: cs1:=by rw [hfc,ef]
 have ecs : (cs1 ++ [(base 29).at ⟨T,[]⟩ (.inRegion fo3 [8,9,10] :: fk3)]) ++ [(baseD 141).at a₁ (.inRegion ops₁ (i₁ :: rest₁) :: k₁),rootF] = cs1 ++ (base 29).at ⟨T,[]⟩ (.inRegion fo3 [8,9,10] :: fk3) :: [(baseD 141).at a₁ (.inRegion ops₁ (i₁ :: rest₁) :: k₁),rootF]:=by simp
 rw [ecs]
 obtain ⟨lv,g1,g2,g3⟩:=A.log
 have hgb:=O.gb
 have hab:=O.ab
 have hVr:=A.sz
 have hlvgb : ∀ b,lv.ownBlock = some b → D.Vr.heap.size ≤ b ∧ b < V.heap.size:=fun b hb=>⟨(g3 b hb).2,row_at g2 hb⟩
 have h6V:=hown1 b6 hb6
 have hcnt : σ.log.length ≤ 10 * 21:=by
   have h1:=A.cnt
   have h2 : sumTo D.n σ.t ≤ D.n * 21:=sum_bound fun j hj=>by have:=A.le j hj; have:=O.len j hj; omega
   have h3:=O.small
   have h4 : D.n * 21 ≤ 10 * 21:=Nat.mul_le_mul_right _ h3
   omega
 obtain ⟨w1,w2⟩:=aturn_at ht hx hxk
 -- the act
 refine do_out hn A.num e6 hfs hfe fun V1 n1 s1 k1 num1 e61=>?_
 refine af_back n1 hT fun T' V2 hT' h7 n2 kp2 s2 e7=>?_
 rw [s1] at h7 e7
 have k02 : ∀ b,b < V.heap.size → b ≠ D.ab → b ≠ b6 → V2.heap[b]? = V.heap[b]?:=fun b hb h1 h2=>(kp2.keep b (by omega)).trans (k1 b h1 h2)
 have num2:=(kp2.keep D.ab (by omega)).trans num1
 have e62:=(kp2.keep b6 (by omega)).trans e61
 have s20 : V2.heap.size = V.heap.size + 1:=by omega
 clear k1 num1 e61 kp2 s1 s2 n1
 refine (fun (h : ∀ Y,Y = fy4 → Will Try.prog false E.Z (TEndM C (Uam D C) σ i own V ((baseD 141).at a₁ (.inRegion ops₁ (i₁ :: rest₁) :: k₁))) (G ((base 29).at ⟨T',[]⟩ [.code Y,.inBlock 1,.code fr2,.inLoop L29,.inBlock 0]) [(baseD 141).at a₁ (.inRegion ops₁ (i₁ :: rest₁) :: k₁),rootF]) V2)=>h fy4 rfl) ?_
 intro Y hY
 rw [fy4_eq] at hY
 subst hY
 refine mu_seq mu_will ?_
 have hold2 : ∀ b,b < D.Vr.heap.size → b ≠ D.ab → b ≠ D.gb → V2.heap[b]? = D.Vr.heap[b]?:=fun b hb h1 h2=>(k02 b (by omega) h1 (by omega)).trans ((A.old b hb).2 h1 h2)
 obtain ⟨_,_,hR2⟩:=rd_of O hiD hold2
 refine af_r4 n2 hiD e7 hR2.c2 h7 hT' fun T3 hT3 h73=>?_
 clear hR2 h7 hT'
 generalize hV3 : ((V2.setCell ⟨V.heap.size,0,none⟩ (.int .i64 (i : Int))).setCell ⟨V.heap.size,1,none⟩ (.int .i64 (k : Int))) = V3
 have n3 : norm V3 = V3:=by rw [← hV3]; exact norm_set (norm_set n2 _ _) _ _
 have s3 : V3.heap.size = V.heap.size + 1:=by rw [← hV3]; simp [World.setCell,s20]
 have o3 : ∀ b,b ≠ V.heap.size → V3.heap[b]? = V2.heap[b]?:=fun b hb=>by rw [← hV3,setCell_heap,if_neg hb,setCell_heap,if_neg hb]
 have e73 : V3.heap[V.heap.size]? = some (.cells #[.int .i64 (i : Int),.int .i64 (k : Int),.int .i64 (rvA x σ.v),.bool (okA x σ.v)] 67 (0,0)):=by
   rw [← hV3,setCell_heap,if_pos rfl,setCell_heap,if_pos rfl,e7]
   simp
 clear hV3 e7
 have k03 : ∀ b,b < V.heap.size → b ≠ D.ab → b ≠ b6 → V3.heap[b]? = V.heap[b]?:=fun b hb h1 h2=>(o3 b (by omega)).trans (k02 b hb h1 h2)
 have num3:=(o3 D.ab (by omega)).trans num2
 have e63:=(o3 b6 (by omega)).trans e62
 have hold3 : ∀ b,b < D.Vr.heap.size → b ≠ D.ab → b ≠ D.gb → V3.heap[b]? = D.Vr.heap[b]?:=fun b hb h1 h2=>(k03 b (by omega) h1 (by omega)).trans ((A.old b hb).2 h1 h2)
 have g13 : V3.heap[D.gb]? = some (.cells #[lv] 65 (0,0)):=(k03 D.gb (by omega) (fun e=>hab.2 e.symm) (by omega)).trans g1
 have g23 : V3.ownsRow 0 67 4 lv σ.log.length (ents σ.log):=row_keep g2 fun b hb=>k03 b (hlvgb b hb).2 (fun e=>by have:=hlvgb b hb; omega) (fun e=>hB3 lv g1 (e ▸ hb))
 clear k02 num2 e62 hold2 o3 n2 s20
 obtain ⟨g,o,hR3⟩:=rd_of O hiD hold3
 obtain ⟨ga,oa,hra,c4,c5,c6⟩:=rd_act O hiD hx hold3
 refine mu_seq mu_will ?_
 refine af_r5 n3 hiD hk hR3 hra c4 h73 hT3 fun T4 hT4 h74 h38=>?_
 have hle' : ∀ j,j < D.n → (aturn D.acts σ i).t j ≤ (D.acts j).length + 1:=fun j hj=>by
   rw [aturn_t]
   by_cases e : j = i
   · subst e; rw [upd_same,ht]; omega
   · rw [upd_ne _ _ e]; exact A.le j hj
 have H' : CwAt C false (upd (amst D.acts (aturn D.acts σ i)) i 1) V:=by
   rw [st_but]
   have : upd (amst D.acts σ) i 1 = amst D.acts σ:=by
     funext j
     by_cases e : j = i
     · subst e; rw [upd_same,hs]
     · rw [upd_ne _ _ e]
   rw [this]; exact H
 have fin : ∀ T5 V5,HF D i k (C.tp i) T5 → Mid D (aturn D.acts σ i) own V V5 → Will Try.prog false E.Z (TEndM C (Uam D C) σ i own V ((baseD 141).at a₁ (.inRegion ops₁ (i₁ :: rest₁) :: k₁))) (G ((base 29).at ⟨T5,[]⟩ [.inBlock 1,.code fr2,.inLoop L29,.inBlock 0]) [(baseD 141).at a₁ (.inRegion ops₁ (i₁ :: rest₁) :: k₁),rootF]) V5:=fun T5 V5 hT5 M5=>by
   refine mu_inBlock mu_will ?_
   refine af_r2 M5.nrm hiD (by omega) hT5 fun T6 hT6=>?_
   refine mu_inLoop mu_will ?_
   exact af_go O hA hi hnC hown hgo H' M5 ht hk hT6
 by_cases h3 : x.1 = 3
 · rw [show (!(x.1 == 3)) = false by simp [h3]] at h38
   refine mu_cond mu_will false (cond_atA h38) ?_
   refine mu_skip mu_will ?_
   rw [if_pos h3] at w2
   refine fin T4 V3 hT4 (Mid.act O hown1 A hb6 ⟨hVr6,⟨_,_,_,_,e6⟩,hB3⟩ g1 n3 (by omega) (fun b hb h1 _ h2 _=>k03 b hb h1 h2) (by rw [w1]; exact num3) g13 (by rw [w2]; exact g23) (fun b hb=>.inl hb) e63 hle' ?_)
   rw [w2,aturn_t,sum_up hiD]
   have:=A.cnt
   omega
 · rw [show (!(x.1 == 3)) = true by simp [h3]] at h38
   refine mu_cond mu_will true (cond_atA h38) ?_
   rw [if_neg h3] at w2
   refine af_r6 n3 e73 g13 g23 (by omega) (fun e=>by have:=hlvgb _ e; omega) h74 hT4 fun T5 V5 v5 hT5 n5 g15 r5 s5 k5 o5=>?_
   have hlv5 : lv.ownBlock ≠ some b6:=hB3 lv g1
   refine fin T5 V5 hT5 (Mid.act O hown1 A hb6 ⟨hVr6,⟨_,_,_,_,e6⟩,hB3⟩ g1 n5 (by omega) (fun b hb h1 h2 h4 h5=>(k5 b (by omega) h2 h5).trans (k03 b hb h1 h4)) (by rw [w1]; exact (k5 D.ab (by omega) hab.2 (fun e=>by have:=hlvgb _ e; omega)).trans num3) g15 (by rw [w2,List.length_append,ents_snoc]; exact r5) (fun b hb=>(o5 b hb).imp id fun h=>by omega) ((k5 b6 (by omega) (by omega) hlv5).trans e63) hle' ?_)
   rw [w2,aturn_t,sum_up hiD,List.length_append]
   have:=A.cnt
   simp
   omega
theorem uam_ok (O : AeOk D) (hA : ActsOk D) (hnC : C.n = D.n) (hf : ∀ i,i < C.n → C.f i = .func (.func 29) #[] #[bq D.tb,bq (D.ix i),bq D.ab,bq D.gb]) : UOk E C (Uam D C):=by
 refine ⟨fun σ own V V' A hk hsz=>A.frame O.ab.1 O.gb hk hsz,fun cs own V V' h hk hsz=>?_,fun σ i cs h=>?_,fun σ i j cs _ _ hj h=>?_,fun σ i j _ _ _ hji=>.inl (amst_other D.acts σ hji),fun σ i _=>?_,fun σ i hi h=>⟨hf i hi,_,_,Try.func29,by kernel_rfl,rfl⟩,fun σ i own V Rf bx hi hs hRf hn H A hown _ _=>?_,fun σ i own V Rf bx b a ops i₀ rest k cs hi hs hl hm hRf hn H A hown _ _=>?_⟩
 · obtain ⟨h1,h2⟩:=h
   refine ⟨h1,fun b hb=>?_⟩
   obtain ⟨h3,h4,⟨c0,c1,c2,c3,h5⟩,h6⟩:=h2 b hb
   exact ⟨h3,h4,⟨c0,c1,c2,c3,(hk b h3).trans h5⟩,fun lv hl=>h6 lv (by rw [hk _ h1] at hl; exact hl)⟩
 · obtain ⟨k,x,b6,fs,T,ht,hx,hfs,hT,rfl⟩:=h
   intro f hf
   rcases List.mem_append.1 hf with h | h
   · exact hfs.uf f h
   · obtain rfl : f = _:=by simpa using h
     exact uf_at rfl rfl rfl ⟨_,Try.func29⟩
 · obtain ⟨k,x,b6,fs,T,ht,hx,hfs,hT,e⟩:=h
   refine ⟨k,x,b6,fs,T,?_,hx,hfs,hT,e⟩
   show upd σ.t i (σ.t i + 1) j = k + 1
   rw [upd_ne _ _ hj]
   exact ht
 · show amst D.acts σ i = 0 ∨ amst D.acts σ i = 1 ∨ amst D.acts σ i = 2 ∨ amst D.acts σ i = 3
   unfold amst
   split
   · exact .inl rfl
   · split
     · exact .inr (.inl rfl)
     · exact .inr (.inr (.inr rfl))
 · obtain ⟨a₁,ops₁,i₁,rest₁,k₁,eRf,-⟩:=hRf
   subst eRf
   exact uam_start O hA hi hnC hs hn H A hown
 · obtain ⟨a₁,ops₁,i₁,rest₁,k₁,eRf,-⟩:=hRf
   subst eRf
   exact uam_resume O hA hi hnC hs hl hm hn H A hown
end
end Go.Proofs.Ytibcdikfbhmheaa
