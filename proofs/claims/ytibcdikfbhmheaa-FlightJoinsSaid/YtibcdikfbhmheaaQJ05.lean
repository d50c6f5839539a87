import Derived.Test.YtibcdikfbhmheaaB24
import Derived.Test.YtibcdikfbhmheaaQJ01
import Derived.Test.YtibcdikfbhmheaaB23
set_option linter.unusedSimpArgs false
set_option linter.unusedVariables false
set_option maxRecDepth 100000
set_option maxHeartbeats 4000000
namespace Go.Proofs.Ytibcdikfbhmheaa
open Go Go.Conc Go.Proofs
noncomputable section
theorem array14f (T : Array Value) (h : T.size = 14) : ∃ f : Nat -> Value,(∀ i v,T[i]? = some v -> f i = v) /\ T = #[f 0,f 1,f 2,f 3,f 4,f 5,f 6,f 7,f 8,f 9,f 10,f 11,f 12,f 13]:=arrg T h
noncomputable def R94a : Code:=nva (Try.f94.body.getD .skip)
noncomputable def R94b : Code:=nvb (Try.f94.body.getD .skip)
def SLt (cb bx x : Nat) (cv mp : Value) (l : Array Bool) (w : World) : Prop:=(w.cell? ⟨bx,0,none⟩ = some (.int .i64 (x : Int)) /\ w.cell? ⟨bx,1,none⟩ = some mp) /\ (l.getD 10 false = false -> w.cell? ⟨cb,0,none⟩ = some cv)
structure PuW (V : World) (cb : Nat) (cv xa xb xc : Value) (n : Nat) (q : List Value) (x : Nat) (mp : Value) (V' : World) (cv' : Value) : Prop where
 nrm : norm V' = V'
 c : V'.heap[cb]? = some (.cells #[cv',xa,xb,xc] 201 (0,0))
 qu : Qu V' 183 2 cv' (n + 1) (q ++ [.int .i64 (x : Int),mp])
 sz : V.heap.size <= V'.heap.size
 keep : ∀ b,b < V.heap.size -> b ≠ cb -> cv.ownBlock ≠ some b -> V'.heap[b]? = V.heap[b]?
 own : cv'.ownBlock = cv.ownBlock ∨ ∃ b,cv'.ownBlock = some b /\ V.heap.size <= b
def TLt (T : Array Value) (cb bx : Nat) : Prop:=T.size = 14 /\ T[0]? = some (bq cb) /\ T[3]? = some (bq bx)
section
variable {main : Bool} {Z : Cuts} {Stop : Goroutine -> World -> Prop} {V : World} {cb x n : Nat} {cv xa xb xc : Value} {m1 : Option Addr} {q : List Value} {bQ : Frame} {aQ : Act} {opsQ : Array Oper} {iQ : Nat} {restQ : List Nat} {kQ : List Item} {cs : List Frame}
theorem info183 : ∃ i0,Try.prog.info? 183 = some i0 /\ i0.zero = some (.agg #[.int .i64 0,.pointer none]) /\ i0.size = 2 /\ i0.bytes = 16:=by
 have h3 : (Try.prog.info? 183).map (fun i=>(i.zero,i.size,i.bytes)) = some (some (.agg #[.int .i64 0,.pointer none]),2,16):=by kernel_rfl
 cases e : Try.prog.info? 183 with
 | none=>rw [e] at h3; cases h3
 | some i0=>rw [e] at h3; exact ⟨i0,rfl,by simpa using h3⟩
theorem lt_r1 {bx : Nat} {T : Array Value} {kt : List Item} {cs0 : List Frame} (hn : norm V = V) (hbx : V.heap[bx]? = some (.cells #[.int .i64 (x : Int),.pointer m1] 183 (0,0))) (hcb : V.heap[cb]? = some (.cells #[cv,xa,xb,xc] 201 (0,0))) (hq : Qu V 183 2 cv n q) (hn9 : n < 100000000) (hqb : cv.ownBlock ≠ some bx) (hqc : cv.ownBlock ≠ some cb) (hT : TLt T cb bx)
   (K : ∀ T' V' cv',PuW V cb cv xa xb xc n q x (.pointer m1) V' cv' -> Will Try.prog main Z Stop (G ((base 94).at ⟨T',[]⟩ kt) cs0) V') :
   Will Try.prog main Z Stop (G ((base 94).at ⟨T,[]⟩ (.code R94b :: kt)) cs0) V:=by
 refine will_code (L:=Lone) (R:=fun a' V'=>∃ cv',PuW V cb cv xa xb xc n q x (.pointer m1) V' cv') calm rfl ⟨_,Try.func94⟩ rfl (by kernel_rfl) (fun τ=>?_) fun a' V' ⟨cv',h1⟩ ha'=>?_
 . clear K
   obtain ⟨hs,t0,t3⟩:=hT
   obtain ⟨f,hf,hT⟩:=array14f T hs
   rw [hT]
   simp only [hf _ _ t0,hf _ _ t3]
   clear hf hs t0 t3
   subst hT
   simp only [R94b,nvb,Try.f94,Option.getD_some]
   have c0 : V.cell? ⟨cb,0,none⟩ = some cv:=cell_of hcb (by simp)
   have z0 : V.frozen? ⟨cb,0,none⟩ = false:=by simp [World.frozen?,hcb]
   have d0 : V.cell? ⟨bx,0,none⟩ = some (.int .i64 (x : Int)):=cell_of hbx (by simp)
   have d1 : V.cell? ⟨bx,1,none⟩ = some (.pointer m1):=cell_of hbx (by simp)
   have hlb : cb < V.heap.size:=cell_lt c0
   have hlx : bx < V.heap.size:=cell_lt d0
   have hne : bx ≠ cb:=fun e=>by rw [e,hcb] at hbx; cases hbx
   have hrlt : ∀ b,cv.ownBlock = some b -> b < V.heap.size:=fun b hb=>hq.at_ hb
   obtain ⟨vx,vc,hv⟩:=hq.sl
   simp only [bq]
   refine wp_region_g (SLt cb bx x cv (.pointer m1)) (by kernel_rfl) ?_
   refine wS ?_
   generalize hw0 : ({ re V τ 0 with drawn:=(re V τ 0).drawn + 1 } : World) = w0
   have hh : w0.heap = V.heap:=by rw [← hw0]; rfl
   have hnw : w0.heap.size = V.heap.size:=by rw [hh]
   have SK : ∀ (w : World) (l : Array Bool),w.heap[bx]? = V.heap[bx]? -> (l.getD 10 false = false -> w.heap[cb]? = V.heap[cb]?) -> SLt cb bx x cv (.pointer m1) l w:=fun w l h1 h2=>⟨⟨cell_keep d0 h1,cell_keep d1 h1⟩,fun h=>cell_keep c0 (h2 h)⟩
   have S0 : ∀ l,SLt cb bx x cv (.pointer m1) l w0:=fun l=>SK w0 l (by rw [hh]) fun _=>by rw [hh]
   clear hw0
   refine wpAnyG_take (i:=0) (v:=.pointer (some ⟨cb,0,none⟩)) rfl (by kernel_rfl) (by kernel_rfl) (by kernel_rfl) (by kernel_rfl) (fun _ _ _ h=>h) (fun l w=>by simp only [SLt,set_iff (i:=0) (j:=10) (by decide)]) (Or.inl ⟨by rfl,fun w5 hS5=>by go_simp⟩) (S0 _) ?_
   walk_nrm
   refine wpAnyG_take (i:=1) (v:=.pointer (some ⟨cb,0,none⟩)) rfl (by kernel_rfl) (by kernel_rfl) (by kernel_rfl) (by kernel_rfl) (fun _ _ _ h=>h) (fun l w=>by simp only [SLt,set_iff (i:=1) (j:=10) (by decide)]) (Or.inl ⟨by rfl,fun w5 hS5=>by go_simp⟩) (S0 _) ?_
   walk_nrm
   refine wpAnyG_take (i:=2) (v:=.pointer (some ⟨cb,0,none⟩)) rfl (by kernel_rfl) (by kernel_rfl) (by kernel_rfl) (by kernel_rfl) (fun _ _ _ h=>h) (fun l w=>by simp only [SLt,set_iff (i:=2) (j:=10) (by decide)]) (Or.inl ⟨by rfl,fun w5 hS5=>by go_simp⟩) (S0 _) ?_
   walk_nrm
   refine wpAnyG_take (i:=3) (v:=.pointer (some ⟨cb,0,none⟩)) rfl (by kernel_rfl) (by kernel_rfl) (by kernel_rfl) (by kernel_rfl) (fun _ _ _ h=>h) (fun l w=>by simp only [SLt,set_iff (i:=3) (j:=10) (by decide)]) (Or.inl ⟨by rfl,fun w5 hS5=>by go_simp⟩) (S0 _) ?_
   walk_nrm
   refine wpAnyG_take (i:=4) (v:=cv) rfl (by kernel_rfl) (by kernel_rfl) (by kernel_rfl) (by kernel_rfl) (fun _ _ _ h=>h) (fun l w=>by simp only [SLt,set_iff (i:=4) (j:=10) (by decide)]) (Or.inl ⟨by rfl,fun w5 hS5=>by obtain ⟨l5,⟨⟨y0,y1⟩,x1⟩,x2,x3⟩:=hS5; have x4:=x1 (reach_off x2 x3 (n:=20) (m:=10) (by kernel_rfl)).1; rw [hv] at x4 ⊢; go_simp⟩) (S0 _) ?_
   walk_nrm
   refine wpAnyG_take (i:=5) (v:=.agg #[.int .i64 (x : Int),.pointer m1]) rfl (by kernel_rfl) (by kernel_rfl) (by kernel_rfl) (by kernel_rfl) (fun _ _ _ h=>h) (fun l w=>by simp only [SLt,set_iff (i:=5) (j:=10) (by decide)]) (Or.inl ⟨by rfl,fun w5 hS5=>by obtain ⟨l5,⟨⟨y0,y1⟩,x1⟩,x2,x3⟩:=hS5; go_simp⟩) (S0 _) ?_
   walk_nrm
   refine wpAnyG_all (rs:=[6]) (by kernel_rfl) (by simp) (fun j hj=>?_)
   obtain rfl : j = 6:=by simpa using hj
   obtain ⟨w1,hw1⟩ : ∃ y,y = w0.alloc (.cells #[.int .i64 (x : Int),.pointer m1] 183):=⟨_,rfl⟩
   have k1 : ∀ b,b < V.heap.size -> w1.heap[b]? = V.heap[b]?:=fun b hb=>by rw [hw1,alloc_get,if_neg (by omega),hh]
   have s1 : w1.heap.size = V.heap.size + 1:=by rw [hw1,alloc_size]; omega
   have e1 : w1.heap[w0.heap.size]? = some (.cells #[.int .i64 (x : Int),.pointer m1] 183 (0,0)):=by rw [hw1,alloc_get,if_pos rfl]
   refine wpOp_val (v:=.slice (some ⟨w0.heap.size,0,none⟩) 1 1) (w':=w1) rfl rfl (by go_simp; first | done | exact ⟨by first | rfl | assumption | (simp only [re]; omega),hw1.symm⟩ | exact hw1.symm) ⟨SK w1 _ (k1 _ hlx) fun _=>k1 _ hlb,?_⟩
   walk_nrm
   obtain ⟨i0,hi0,hz0,hz1,hz2⟩:=info183
   obtain ⟨v3,w3,a1,v3r,v3s,v3k,v3o⟩:=qu_push (P:=Try.prog) (t:=98) (c:=1) Try.underlying98 hi0 hz0 hz1 hz2 rfl (by decide) (by decide) (w:=w1) (b:=w0.heap.size) (news:=#[.int .i64 (x : Int),.pointer m1]) (hq.keep fun b hb=>k1 b (hrlt b hb)) e1 rfl (by simp [Value.oneCell']) (by omega)
   have k3 : ∀ b,b < V.heap.size -> cv.ownBlock ≠ some b -> w3.heap[b]? = V.heap[b]?:=fun b hb hne=>(v3k b (by omega) hne).trans (k1 b hb)
   refine wpAnyG_all (rs:=[7]) (by kernel_rfl) (by simp) (fun j hj=>?_)
   obtain rfl : j = 7:=by simpa using hj
   refine wpOp_val (v:=v3) (w':=w3) rfl rfl (run_app_opm (s:=.tmp 8) (x:=.tmp 10) rfl rfl rfl a1) ⟨SK w3 _ (k3 _ hlx hqb) fun _=>k3 _ hlb hqc,?_⟩
   walk_nrm
   have g1 : w3.cell? ⟨cb,0,none⟩ = some cv:=cell_keep c0 (k3 _ hlb hqc)
   have g2 : w3.frozen? ⟨cb,0,none⟩ = false:=froz_kept z0 (k3 _ hlb hqc)
   have g3 : w3.heap[cb]? = some (.cells #[cv,xa,xb,xc] 201 (0,0)):=(k3 _ hlb hqc).trans hcb
   have hs3 : V.heap.size <= w3.heap.size:=by omega
   obtain ⟨yx,yc,hy⟩:=v3r.sl
   rw [hv] at g1
   refine wpAnyG_all (rs:=[8]) (by kernel_rfl) (by simp) (fun j hj=>?_)
   obtain rfl : j = 8:=by simpa using hj
   refine wpOp_val (v:=.pointer (some ⟨cb,0,none⟩)) (w':=w3) rfl rfl (by go_simp) ⟨SK w3 _ (k3 _ hlx hqb) fun _=>k3 _ hlb hqc,?_⟩
   walk_nrm
   refine wpAnyG_all (rs:=[9]) (by kernel_rfl) (by simp) (fun j hj=>?_)
   obtain rfl : j = 9:=by simpa using hj
   refine wpOp_val (v:=.pointer (some ⟨cb,0,none⟩)) (w':=w3) rfl rfl (by go_simp) ⟨SK w3 _ (k3 _ hlx hqb) fun _=>k3 _ hlb hqc,?_⟩
   walk_nrm
   refine wpAnyG_all (rs:=[10]) (by kernel_rfl) (by simp) (fun j hj=>?_)
   obtain rfl : j = 10:=by simpa using hj
   have o3 : v3.ownBlock = cv.ownBlock ∨ ∃ b,v3.ownBlock = some b /\ V.heap.size <= b:=v3o.imp id fun h=>⟨_,h,by omega⟩
   have q3 : v3.ownBlock ≠ some cb:=by
     rcases o3 with h | ⟨b,h,hb⟩
     . rw [h]; exact hqc
     . rw [h]; intro e; have:=Option.some.inj e; omega
   refine wpOp_skip (w':=w3.setCell ⟨cb,0,none⟩ v3) rfl rfl (by subst hy; go_simp) ⟨⟨⟨cell_keep d0 ((set_off _ _ hne).trans (k3 _ hlx hqb)),cell_keep d1 ((set_off _ _ hne).trans (k3 _ hlx hqb))⟩,fun h=>absurd h (by decide)⟩,?_⟩
   walk_nrm
   refine wpAnyG_done (by kernel_rfl) ⟨⟨v3,rfl,?_,?_,?_,fun b hb hne hv=>?_,o3⟩,rfl⟩ _
   . show (w3.setCell ⟨cb,0,none⟩ v3).heap[cb]? = _
     rw [setCell_heap,if_pos rfl,g3]
     simp
   . exact Qu.keep (w:=w3) v3r fun b hb=>set_off _ _ (fun e=>q3 (by rw [← e]; exact hb))
   . show V.heap.size <= (w3.setCell ⟨cb,0,none⟩ v3).heap.size
     simpa [World.setCell] using hs3
   . exact (set_off _ _ hne).trans (k3 b hb hv)
 . obtain ⟨T',df⟩:=a'
   simp only at ha'
   subst ha'
   exact K T' V' cv' h1
theorem will_push (hn : norm V = V) (hcb : V.heap[cb]? = some (.cells #[cv,xa,xb,xc] 201 (0,0))) (hq : Qu V 183 2 cv n q) (hn9 : n < 100000000) (hqc : cv.ownBlock ≠ some cb)
   (K : ∀ V' cv',PuW V cb cv xa xb xc n q x (.pointer m1) V' cv' -> Will Try.prog main Z Stop (G (bQ.at (aQ.put ((opsQ[iQ]?).bind (·.dst)) (.tuple #[])) (.inRegion opsQ restQ :: kQ)) cs) V') :
   Will Try.prog main Z Stop (G (Frame.enter Try.prog 94 #[.pointer (some ⟨cb,0,none⟩),.agg #[.int .i64 (x : Int),.pointer m1]] .normal) (bQ.at aQ (.inRegion opsQ (iQ :: restQ) :: kQ) :: cs)) V:=by
 have e94 : Try.f94.body = some (.seq R94a R94b):=by kernel_rfl
 have hK0:=K
 clear K
 rw [enter_at (P:=Try.prog) _ Try.func94 e94]
 refine mu_seq mu_will ?_
 clear e94
 have hnt : Try.f94.ntmps = 14:=rfl
 rw [hnt]
 clear hnt
 generalize hX0 : R94a = X0
 simp only [R94a,nva,Try.f94,Option.getD_some] at hX0
 subst hX0
 walk_nrm
 obtain ⟨K,hK,hV,key,yek⟩:=kKV (L:=Lone) (J:=fun g=>Will Try.prog main Z Stop g V) mu_will (muv_will hn)
 refine key _ ?_
 refine mu_regionH hK (fun kk hkk=>?_)
 simp only [List.size_toArray,List.length_cons,List.length_nil,Nat.reduceAdd,Nat.zero_add,List.range,List.range.loop]
 refine yek _ ?_
 clear hK hV key yek K
 have hnA:=norm_al hn (.cells #[.int .i64 (x : Int),.pointer m1] 183)
 refine mua_put (L:=Lone) (v:=.pointer (some ⟨V.heap.size,0,none⟩)) (mua_will hnA) (K:=fun g=>Will Try.prog main Z Stop g V) (K':=fun g=>Will Try.prog main Z Stop g (V.alloc (.cells #[.int .i64 (x : Int),.pointer m1] 183))) rfl (.inl rfl) rfl (by kernel_rfl) (fun τ=>?_) ?_
 . go_simp
   first | exact ⟨by first | rfl | assumption | (simp only [re]; omega),rfl⟩ | rfl | (simp; done)
 have eA:=al_at V (.cells #[.int .i64 (x : Int),.pointer m1] 183)
 have sA : (V.alloc (.cells #[.int .i64 (x : Int),.pointer m1] 183)).heap.size = V.heap.size + 1:=by rw [al_size]
 have kA : ∀ b,b < V.heap.size -> (V.alloc (.cells #[.int .i64 (x : Int),.pointer m1] 183)).heap[b]? = V.heap[b]?:=fun b hb=>by rw [al_get,if_neg (by omega)]
 generalize (V.alloc (.cells #[.int .i64 (x : Int),.pointer m1] 183)) = VA at *
 generalize hbx : V.heap.size = bx at *
 walk_nrm
 refine mu_region_end mu_will ?_
 subst hkk
 have hlb : cb < bx:=by rw [← hbx]; exact (glt hcb)
 refine lt_r1 (bx:=bx) hnA eA ((kA cb hlb).trans hcb) (hq.keep fun b hb=>kA b (by rw [← hbx]; exact hq.at_ hb)) hn9 (fun e=>by have:=hq.at_ e; omega) hqc ⟨by simp,rfl,rfl⟩ fun T' V' cv' h=>?_
 refine mu_end mu_will ?_
 refine mu_leave0 mu_will rfl rfl Try.func94 rfl ?_
 refine hK0 V' cv' ⟨h.nrm,h.c,h.qu,by have:=h.sz; omega,fun b hb h1 h2=>(h.keep b (by omega) h1 h2).trans (kA b (by omega)),h.own.imp id fun h=>?_⟩
 obtain ⟨b,h1,h2⟩:=h
 exact ⟨b,h1,by omega⟩
end
open Go.RowKit
def wts (mb : Nat) (cq : List Nat) : List Value:=cq.flatMap fun (x : Nat)=>[.int .i64 (x : Int),.pointer (some ⟨mb,0,none⟩)]
theorem wts_cons (mb x : Nat) (cq : List Nat) : wts mb (x :: cq) = [.int .i64 (x : Int),.pointer (some ⟨mb,0,none⟩)] ++ wts mb cq:=rfl
theorem wts_snoc (mb x : Nat) (cq : List Nat) : wts mb (cq ++ [x]) = wts mb cq ++ [.int .i64 (x : Int),.pointer (some ⟨mb,0,none⟩)]:=by simp [wts]
theorem res_ct {fn : Func} {tmps : Array Value} {w : World} {g : Nat} {x y : Value} (h : fn.results = #[.cell 2 183,.tmp 3]) (ht : tmps.getD 2 undef = .pointer (some ⟨g,0,none⟩)) (c0 : w.cell? ⟨g,0,none⟩ = some x) (c1 : w.cell? ⟨g,1,none⟩ = some y) : (results fn tmps).run Try.prog w = .ok (.tuple #[.agg #[x,y],tmps.getD 3 undef]) w:=by
 unfold results
 rw [h]
 simp only [List.mapM_toArray,List.mapM_cons,List.mapM_nil,Sem.run_bind,ht]
 go_simp
theorem al2_get (w : World) (o o' : Obj) {g : Nat} (h : g = w.heap.size) : ((w.alloc o).alloc o').heap[g]? = some o:=by
 subst h
 rw [alloc_get,if_neg (by rw [alloc_size]; omega),alloc_get,if_pos rfl]
theorem al1_kp (w : World) (o : Obj) : Kp w (w.alloc o):=⟨by rw [alloc_size]; omega,fun b hb=>by rw [alloc_get,if_neg (by omega)]⟩
theorem al2_kp (w : World) (o o' : Obj) : Kp w ((w.alloc o).alloc o'):=⟨by rw [alloc_size,alloc_size]; omega,fun b hb=>by rw [alloc_get,if_neg (by rw [alloc_size]; omega),alloc_get,if_neg (by omega)]⟩
theorem pop130 (cb : Nat) (cv : Value) (x : Int) (m1 : Option Addr) (q : List Value) (w : World) (hc : w.cell? ⟨cb,0,none⟩ = some cv) (hf : w.frozen? ⟨cb,0,none⟩ = false) (n : Nat) (h : Qu w 183 2 cv (n + 1) ([.int .i64 x,.pointer m1] ++ q)) : Calls Try.prog 130 #[.pointer (some ⟨cb,0,none⟩)] w fun e w'=>e = .returned (.tuple #[.agg #[.int .i64 x,.pointer m1],.bool true]) /\ Kp (w.setCell ⟨cb,0,none⟩ (cdr 2 cv)) w':=by
 obtain ⟨g,o,cap,rfl,hnc,hx,-,-⟩:=Qu.pop (x:=[.int .i64 x,.pointer m1]) h rfl (by decide)
 have hx0 : w.cell? ⟨g,o,none⟩ = some (.int .i64 x):=hx 0 _ rfl
 have hx1 : w.cell? ⟨g,o + 1,none⟩ = some (.pointer m1):=hx 1 _ rfl
 have hlt:=cell_lk hc
 have hlg : g < w.heap.size:=cell_lk hx0
 rw [cdr_mk]
 clear hx h
 go_enter Try.func130,Try.ntmps130
 go_wp2
 all_goals
   refine bodyPost_ret (res_ct (x:=.int .i64 x) (y:=.pointer m1) rfl rfl ?_ ?_) rfl ⟨rfl,?_⟩
   . exact cell_of (v:=.int .i64 x) (al2_get _ _ _ (by simp [World.setCell])) (by simp)
   . exact cell_of (v:=.pointer m1) (al2_get _ _ _ (by simp [World.setCell])) (by simp)
   . exact al2_kp _ _ _
theorem pop130n (cb : Nat) (w : World) (b : Option Addr) (c : Nat) (hc : w.cell? ⟨cb,0,none⟩ = some (.slice b 0 c)) : Calls Try.prog 130 #[.pointer (some ⟨cb,0,none⟩)] w fun e w'=>e = .returned (.tuple #[.agg #[.int .i64 0,.pointer none],.bool false]) /\ Kp w w':=by
 have hlt:=cell_lk hc
 go_enter Try.func130,Try.ntmps130
 go_wp2
 all_goals
   refine bodyPost_ret (res_ct (x:=.int .i64 0) (y:=.pointer none) rfl rfl ?_ ?_) rfl ⟨rfl,?_⟩
   . exact cell_of (v:=.int .i64 0) (al2_get _ _ _ rfl) (by simp)
   . exact cell_of (v:=.pointer none) (al2_get _ _ _ rfl) (by simp)
   . exact al2_kp _ _ _
structure BcI (w0 : World) (qv0 cv0 xa xb xc : Value) (mb cb ow : Nat) (q : List Nat) (qv : Value) (cq : List Nat) (cv : Value) (w : World) : Prop where
 c0 : w.cell? ⟨mb,0,none⟩ = some qv
 z0 : w.frozen? ⟨mb,0,none⟩ = false
 c1 : w.cell? ⟨mb,1,none⟩ = some (.int .i64 (ow : Int))
 z1 : w.frozen? ⟨mb,1,none⟩ = false
 qu : Qu w 3 1 qv q.length (ints q)
 d0 : w.cell? ⟨cb,0,none⟩ = some cv
 y0 : w.frozen? ⟨cb,0,none⟩ = false
 cu : Qu w 183 2 cv cq.length (wts mb cq)
 ne : mb ≠ cb
 qm : qv.ownBlock ≠ some mb
 qc : qv.ownBlock ≠ some cb
 cm : cv.ownBlock ≠ some mb
 cc : cv.ownBlock ≠ some cb
 sz : w0.heap.size <= w.heap.size
 keep : ∀ b,b < w0.heap.size -> b ≠ mb -> b ≠ cb -> qv0.ownBlock ≠ some b -> w.heap[b]? = w0.heap[b]?
 qo : qv.ownBlock = qv0.ownBlock ∨ ∃ b,qv.ownBlock = some b /\ w0.heap.size <= b
 co : cv.ownBlock = cv0.ownBlock
 ec : w.heap[cb]? = some (.cells #[cv,xa,xb,xc] 201 (0,0))
section
variable {w0 w w' : World} {qv0 cv0 qv cv xa xb xc : Value} {mb cb ow : Nat} {q cq : List Nat}
theorem qu_ne {w : World} {e e' : TypeId} {sz sz' n n' : Nat} {v v' : Value} {q q' : List Value} (h : Qu w e sz v n q) (h' : Qu w e' sz' v' n' q') (hne : e ≠ e') {b : Nat} (hb : v.ownBlock = some b) : v'.ownBlock ≠ some b:=fun hb'=>by
 obtain ⟨_,⟨rfl,_⟩ | ⟨g,o,c,cur,rfl,hg,_⟩⟩:=h
 . cases hb
 . obtain ⟨_,⟨rfl,_⟩ | ⟨g',o',c',cur',rfl,hg',_⟩⟩:=h'
   . cases hb'
   . obtain rfl : g = b:=by simpa [Value.ownBlock] using hb
     obtain rfl : g' = g:=by simpa [Value.ownBlock] using hb'
     rw [hg] at hg'
     have:=Option.some.inj hg'
     injection this with _ h2 _
     exact hne h2
theorem BcI.kp (h : BcI w0 qv0 cv0 xa xb xc mb cb ow q qv cq cv w) (k : Kp w w') : BcI w0 qv0 cv0 xa xb xc mb cb ow q qv cq cv w':=by
 have e1:=k.keep mb (cell_lk h.c0)
 have e2:=k.keep cb (cell_lk h.d0)
 exact ⟨cell_kept h.c0 e1,froz_kept h.z0 e1,cell_kept h.c1 e1,froz_kept h.z1 e1,h.qu.keep fun b hb=>k.keep b (h.qu.at_ hb),cell_kept h.d0 e2,froz_kept h.y0 e2,h.cu.keep fun b hb=>k.keep b (h.cu.at_ hb),h.ne,h.qm,h.qc,h.cm,h.cc,Nat.le_trans h.sz k.size,fun b hb a1 a2 a3=>(k.keep b (Nat.lt_of_lt_of_le hb h.sz)).trans (h.keep b hb a1 a2 a3),h.qo,h.co,e2.trans h.ec⟩
theorem BcI.pop {x : Nat} (h : BcI w0 qv0 cv0 xa xb xc mb cb ow q qv (x :: cq) cv w) : BcI w0 qv0 cv0 xa xb xc mb cb ow q qv cq (cdr 2 cv) (w.setCell ⟨cb,0,none⟩ (cdr 2 cv)):=by
 have hcu:=h.cu
 rw [wts_cons] at hcu
 obtain ⟨g,o,cap,e,_,_,h1,h2⟩:=Qu.pop (x:=[.int .i64 (x : Int),.pointer (some ⟨mb,0,none⟩)]) (q:=wts mb cq) (n:=cq.length) (sz:=2) hcu rfl (by decide)
 have hoff : ∀ b,b ≠ cb -> (w.setCell ⟨cb,0,none⟩ (cdr 2 cv)).heap[b]? = w.heap[b]?:=fun b hb=>set_off _ _ hb
 refine ⟨cell_kept h.c0 (hoff mb h.ne),froz_kept h.z0 (hoff mb h.ne),cell_kept h.c1 (hoff mb h.ne),froz_kept h.z1 (hoff mb h.ne),h.qu.keep fun b hb=>hoff b (fun e=>h.qc (e ▸ hb)),set_at h.d0 h.y0,by rw [froz_set]; exact h.y0,h1.keep fun b hb=>hoff b (fun e2=>h.cc (by rw [← h2,hb,e2])),h.ne,h.qm,h.qc,by rw [h2]; exact h.cm,by rw [h2]; exact h.cc,by simpa [World.setCell] using h.sz,fun b hb a1 a2 a3=>(hoff b a2).trans (h.keep b hb a1 a2 a3),h.qo,h2.trans h.co,by rw [setCell_heap,if_pos rfl,h.ec]; simp⟩
theorem BcI.ask {x : Nat} (h : BcI w0 qv0 cv0 xa xb xc mb cb ow q qv cq cv w) {v' : Value} {w1 : World} (h1 : Qu w1 3 1 v' (q.length + 1) (ints q ++ [.int .i64 (x : Int)])) (h2 : w.heap.size <= w1.heap.size) (h3 : ∀ b,b < w.heap.size -> qv.ownBlock ≠ some b -> w1.heap[b]? = w.heap[b]?) (h4 : v'.ownBlock = qv.ownBlock ∨ ∃ b,v'.ownBlock = some b /\ w.heap.size <= b) : BcI w0 qv0 cv0 xa xb xc mb cb ow (q ++ [x]) v' cq cv (w1.setCell ⟨mb,0,none⟩ v'):=by
 have hmb:=cell_lk h.c0
 have hcb:=cell_lk h.d0
 have e1:=h3 mb hmb h.qm
 have e2:=h3 cb hcb h.qc
 have hoff : ∀ b,b ≠ mb -> (w1.setCell ⟨mb,0,none⟩ v').heap[b]? = w1.heap[b]?:=fun b hb=>set_off _ _ hb
 have hv : ∀ b,v'.ownBlock = some b -> b < w.heap.size -> qv.ownBlock = some b:=fun b hb hlt=>by
   rcases h4 with h | ⟨b',h,hge⟩
   . rw [← h]; exact hb
   . rw [h] at hb; have:=Option.some.inj hb; omega
 have q1 : v'.ownBlock ≠ some mb:=fun e=>h.qm (hv mb e hmb)
 have q2 : v'.ownBlock ≠ some cb:=fun e=>h.qc (hv cb e hcb)
 have d2:=(hoff cb (fun e=>h.ne e.symm)).trans e2
 have eq : ints q ++ [.int .i64 (x : Int)] = ints (q ++ [x]):=by simp [ints]
 rw [eq] at h1
 have c1' : (w1.setCell ⟨mb,0,none⟩ v').cell? ⟨mb,1,none⟩ = some (.int .i64 (ow : Int)):=by
   rw [cell_set_ne _ _ (by decide)]; exact cell_kept h.c1 e1
 refine ⟨set_at (cell_kept h.c0 e1) (froz_kept h.z0 e1),by rw [froz_set]; exact froz_kept h.z0 e1,c1',by rw [froz_set]; exact froz_kept h.z1 e1,?_,cell_kept h.d0 d2,froz_kept h.y0 d2,h.cu.keep fun b hb=>(hoff b (fun e=>h.cm (e ▸ hb))).trans (h3 b (h.cu.at_ hb) (qu_ne h.cu h.qu (by decide) hb)),h.ne,q1,q2,h.cm,h.cc,?_,fun b hb a1 a2 a3=>?_,?_,h.co,d2.trans h.ec⟩
 . rw [List.length_append,List.length_singleton]
   exact Qu.keep (w:=w1) h1 fun b hb=>hoff b (fun e=>q1 (e ▸ hb))
 . have : (w1.setCell ⟨mb,0,none⟩ v').heap.size = w1.heap.size:=by simp [World.setCell]
   have:=h.sz
   omega
 . have hs:=h.sz
   rw [hoff b a1,h3 b (by omega) (fun e=>?_)]
   . exact h.keep b hb a1 a2 a3
   . rcases h.qo with h5 | ⟨b',h5,hge⟩
     . exact a3 (h5 ▸ e)
     . rw [h5] at e; have:=Option.some.inj e; omega
 . rcases h4 with h5 | ⟨b,h5,hge⟩
   . rw [h5]; exact h.qo
   . right; exact ⟨b,h5,Nat.le_trans h.sz hge⟩
end
theorem tell95 {w0 w : World} {qv0 cv0 qv cv tp xa xb xc : Value} {mb cb ow x : Nat} {q cq : List Nat} (h : BcI w0 qv0 cv0 xa xb xc mb cb ow q qv (x :: cq) cv w) (how : ow ≠ 0) (hx : x < 1000) (hq : q.length < 1000000) : Calls Try.prog 95 #[.pointer (some ⟨cb,0,none⟩),tp] w fun e w'=>e = .returned (.bool true) /\ ∃ qv' cv',BcI w0 qv0 cv0 xa xb xc mb cb ow (q ++ [x]) qv' cq cv' w':=by
 have hcu:=h.cu
 rw [wts_cons] at hcu
 have PO:=Lib.hid (pop130 cb cv (x : Int) (some ⟨mb,0,none⟩) (wts mb cq) w h.d0 h.y0 cq.length hcu)
 have hlt:=cell_lk h.d0
 have HP:=h.pop
 obtain ⟨vb,vc,hqv⟩:=h.qu.sl
 have AS : ∀ w2,BcI w0 qv0 cv0 xa xb xc mb cb ow q qv cq (cdr 2 cv) w2 -> Calls Try.prog 91 #[.pointer (some ⟨mb,0,none⟩),.int .i64 (x : Int)] w2 fun e w'=>e = .returned (.bool false) /\ ∃ qv',BcI w0 qv0 cv0 xa xb xc mb cb ow (q ++ [x]) qv' cq (cdr 2 cv) w':=fun w2 H=>by
   have H1:=H.c0
   have H2:=H.qu
   have H3:=H.qm
   rw [hqv] at H1 H2 H3
   refine (ask91 mb 0 x w2 vb q.length vc (ow : Int) (ints q) H1 H.z0 H.c1 H.z1 H2 (by omega) hx H3).mono fun e w' hh=>?_
   rcases hh with ⟨h0,_⟩ | ⟨_,rfl,v',w1,rfl,k1,k2,k3,k4⟩
   . exact absurd h0 (by omega)
   . exact ⟨rfl,v',H.ask k1 k2 (by rw [hqv]; exact k3) (by rw [hqv]; exact k4)⟩
 have AS':=Lib.hid AS
 have HP':=Lib.hid HP
 clear AS HP h hcu hqv
 go_enter Try.func95,Try.ntmps95
 go_wp2_with (first
   | (go_at_call 130
      refine PO.out.mono ?_
      rintro e w1 ⟨rfl,k1⟩
      have hs1 : w.heap.size <= w1.heap.size:=by have:=k1.size; simpa [World.setCell] using this
      have HB:=Lib.hid (HP'.out.kp k1)
      clear k1))
 refine (AS'.out _ (HB.out.kp (al1_kp _ _))).mono ?_
 rintro e w3 ⟨rfl,H3⟩
 replace H3:=Lib.hid H3
 go_wp2
 go_ret
 obtain ⟨qv',H⟩:=H3.out
 exact ⟨rfl,qv',_,H⟩
theorem tell95n {w0 w : World} {qv0 cv0 qv cv tp xa xb xc : Value} {mb cb ow : Nat} {q : List Nat} (h : BcI w0 qv0 cv0 xa xb xc mb cb ow q qv [] cv w) : Calls Try.prog 95 #[.pointer (some ⟨cb,0,none⟩),tp] w fun e w'=>e = .returned (.bool false) /\ BcI w0 qv0 cv0 xa xb xc mb cb ow q qv [] cv w':=by
 obtain ⟨vb,vc,rfl⟩:=h.cu.sl
 have PO:=Lib.hid (pop130n cb w vb vc h.d0)
 have hlt:=cell_lk h.d0
 have HH:=Lib.hid h
 clear h
 go_enter Try.func95,Try.ntmps95
 go_wp2_with (first
   | (go_at_call 130
      refine PO.out.mono ?_
      rintro e w1 ⟨rfl,k1⟩
      have hs1 : w.heap.size <= w1.heap.size:=k1.size
      have HB:=Lib.hid (HH.out.kp k1)
      clear k1))
 go_ret
 exact ⟨rfl,HB.out.kp (al1_kp _ _)⟩
theorem array14g (T : Array Value) (h : T.size = 14) : ∃ f : Nat -> Value,(∀ i v,T[i]? = some v -> f i = v) /\ T = #[f 0,f 1,f 2,f 3,f 4,f 5,f 6,f 7,f 8,f 9,f 10,f 11,f 12,f 13]:=by
 refine ⟨fun i=>T.getD i undef,fun i v hv=>by simp [Array.getD_eq_getD_getElem?,hv],?_⟩
 generalize hf : (fun i=>T.getD i undef) = f
 have e : T.toList = (List.range 14).map f:=by
   apply List.ext_getElem?
   intro i
   rw [List.getElem?_map,Array.getElem?_toList]
   by_cases hi : i < 14
   . rw [List.getElem?_range hi,Option.map_some,← hf]
     simp [Array.getD_eq_getD_getElem?,Array.getElem?_eq_getElem (show i < T.size by omega)]
   . rw [List.getElem?_eq_none (by simp; omega),Array.getElem?_eq_none (by omega)]
     rfl
 have e2 : (List.range 14).map f = [f 0,f 1,f 2,f 3,f 4,f 5,f 6,f 7,f 8,f 9,f 10,f 11,f 12,f 13]:=rfl
 rw [e2] at e
 rw [← Array.toArray_toList (xs:=T),e]
noncomputable def B51 : Code:=Try.f51.body.getD .skip
def P51 : Code:=nva B51
def C51 : Code:=nva (nvb B51)
def L51 : Code:=nvl (nvk (nva (nvb (nvb B51))))
def E51 : Code:=nvb (nvb (nvb B51))
def R51 : Code:=nva (nva L51)
def o51 : Array Oper:=rops R51
theorem B51_eq : Try.f51.body = some (.seq P51 (.seq C51 (.seq (.block 0 (.loop L51)) E51))):=by kernel_rfl
theorem L51_eq : L51 = .seq (.seq R51 (.cond (.tmp 13) .skip (.exit 0))) (.block 1 .skip):=by kernel_rfl
theorem kp_re (V : World) (τ : Nat -> Question -> Nat) : Kp V (re V τ 0):=⟨Nat.le_refl _,fun _ _=>rfl⟩
theorem kp_norm (w : World) : Kp w (norm w):=⟨Nat.le_refl _,fun _ _=>rfl⟩
def T51 (T : Array Value) (cb : Nat) (tp : Value) : Prop:=T.size = 14 /\ T[0]? = some (.pointer (some ⟨cb,0,none⟩)) /\ T[1]? = some tp
section
variable {main : Bool} {Z : Cuts} {Stop : Goroutine -> World -> Prop} {V V0 : World} {mb cb ow : Nat} {q cq : List Nat} {qv0 cv0 qv cv tp xa xb xc : Value} {m1 : Option Addr} {T : Array Value} {kt : List Item} {bQ : Frame} {aQ : Act} {opsQ : Array Oper} {iQ : Nat} {restQ : List Nat} {kQ : List Item} {cs : List Frame}
theorem r51_in (hn : norm V = V) (hT : T51 T cb tp) (K : ∀ T',T51 T' cb tp -> Will Try.prog main Z Stop (G (Frame.enter Try.prog 95 #[.pointer (some ⟨cb,0,none⟩),tp] .normal) ((base 51).at ⟨T',[]⟩ (.inRegion o51 [2] :: kt) :: cs)) V) :
   Will Try.prog main Z Stop (G ((base 51).at ⟨T,[]⟩ (.code R51 :: kt)) cs) V:=by
 have hK0:=K
 clear K
 obtain ⟨hs,t0,t1⟩:=hT
 obtain ⟨f,hf,hT⟩:=array14g T hs
 rw [hT]
 simp only [hf _ _ t0,hf _ _ t1]
 clear hf hs t0 t1
 subst hT
 have e3 : R51 = .region 3 o51 false:=by kernel_rfl
 rw [e3]
 clear e3
 generalize hX : o51 = X at *
 simp only [o51,R51,L51,B51,rops,nva,nvb,nvk,nvl,Try.f51,Option.getD_some] at hX
 subst hX
 obtain ⟨K,hK,hV,key,yek⟩:=kKV (L:=Lone) (J:=fun g=>Will Try.prog main Z Stop g V) mu_will (muv_will hn)
 refine key _ ?_
 refine mu_region hK ?_
 simp only [List.size_toArray,List.length_cons,List.length_nil,Nat.reduceAdd,Nat.zero_add,List.range,List.range.loop]
 refine muv_val hV rfl (.inl rfl) rfl (by kernel_rfl) (fun J hJ=>?_)
 go_simp
 with_reducible refine hJ _ ?_
 clear hJ J
 walk_nrm
 refine muv_val hV rfl (.inl rfl) rfl (by kernel_rfl) (fun J hJ=>?_)
 go_simp
 with_reducible refine hJ _ ?_
 clear hJ J
 walk_nrm
 refine hK.cl rfl rfl rfl Try.func95 rfl ?_
 walk_nrm
 refine yek _ ?_
 clear hK hV key yek K
 refine hK0 _ ⟨?_,rfl,rfl⟩
 simp
theorem r51_out (hT : T51 T cb tp) {v : Value} (K : ∀ T',T51 T' cb tp -> T'[13]? = some v -> Will Try.prog main Z Stop (G ((base 51).at ⟨T',[]⟩ kt) cs) V) :
   Will Try.prog main Z Stop (G (Frame.finish ((base 51).at ⟨T,[]⟩ (.inRegion o51 [2] :: kt)) v) cs) V:=by
 have hd : ((o51[2]?).map (·.dst)) = some (some 13):=by kernel_rfl
 have hd2 : ((o51[2]?).bind (·.dst)) = some 13:=by
   rcases ho : o51[2]? with _ | o
   . rw [ho] at hd; cases hd
   . rw [ho] at hd; simpa using hd
 rw [Frame.finish_at,hd2]
 refine mu_region_end mu_will ?_
 obtain ⟨hs,t0,t1⟩:=hT
 refine K (T.setIfInBounds 13 v) ⟨by simpa using hs,?_,?_⟩ ?_
 . rw [Array.getElem?_setIfInBounds_ne (by decide)]; exact t0
 . rw [Array.getElem?_setIfInBounds_ne (by decide)]; exact t1
 . rw [Array.getElem?_setIfInBounds_self_of_lt (by omega)]
theorem bc_loop (how : ow ≠ 0) : ∀ (cq q : List Nat) (qv cv : Value) (V : World) (T : Array Value),norm V = V -> BcI V0 qv0 cv0 xa xb xc mb cb ow q qv cq cv V -> (∀ x ∈ cq,x < 1000) -> q.length + cq.length < 1000000 -> T51 T cb tp ->
   (∀ V' qv' cv' T',norm V' = V' -> BcI V0 qv0 cv0 xa xb xc mb cb ow (q ++ cq) qv' [] cv' V' -> T51 T' cb tp -> Will Try.prog main Z Stop (G ((base 51).at ⟨T',[]⟩ kt) cs) V') ->
   Will Try.prog main Z Stop (G ((base 51).at ⟨T,[]⟩ (.code L51 :: .inLoop L51 :: .inBlock 0 :: kt)) cs) V:=by
 intro cq
 induction cq with
 | nil =>
   intro q qv cv V T hn H hx hl hT K
   refine (fun (h : ∀ X,X = L51 -> Will Try.prog main Z Stop (G ((base 51).at ⟨T,[]⟩ (.code X :: .inLoop L51 :: .inBlock 0 :: kt)) cs) V)=>h _ rfl) ?_
   intro X hX
   rw [L51_eq] at hX
   subst hX
   refine mu_seq mu_will (mu_seq mu_will (r51_in hn hT fun T1 hT1=>?_))
   refine will_call (R:=fun v V'=>v = .bool false /\ norm V' = V' /\ BcI V0 qv0 cv0 xa xb xc mb cb ow q qv [] cv V') calm (by decide) (fun τ=>(tell95n (H.kp (kp_re V τ))).mono fun e w' hh=>?_) fun v V' hh=>?_
   . obtain ⟨rfl,h⟩:=hh
     exact ⟨rfl,rfl,h.kp (kp_norm w')⟩
   . obtain ⟨rfl,hn',h⟩:=hh
     refine r51_out hT1 fun T2 hT2 h13=>?_
     refine mu_cond mu_will false (evt h13) ?_
     refine mu_exit mu_will rfl ?_
     rw [List.append_nil] at K
     exact K V' qv cv T2 hn' h hT2
 | cons x cq ih =>
   intro q qv cv V T hn H hx hl hT K
   refine (fun (h : ∀ X,X = L51 -> Will Try.prog main Z Stop (G ((base 51).at ⟨T,[]⟩ (.code X :: .inLoop L51 :: .inBlock 0 :: kt)) cs) V)=>h _ rfl) ?_
   intro X hX
   rw [L51_eq] at hX
   subst hX
   simp only [List.length_cons] at hl
   refine mu_seq mu_will (mu_seq mu_will (r51_in hn hT fun T1 hT1=>?_))
   refine will_call (R:=fun v V'=>v = .bool true /\ norm V' = V' /\ ∃ qv' cv',BcI V0 qv0 cv0 xa xb xc mb cb ow (q ++ [x]) qv' cq cv' V') calm (by decide) (fun τ=>(tell95 (H.kp (kp_re V τ)) how (hx x List.mem_cons_self) (by omega)).mono fun e w' hh=>?_) fun v V' hh=>?_
   . obtain ⟨rfl,qv',cv',h⟩:=hh
     exact ⟨rfl,rfl,qv',cv',h.kp (kp_norm w')⟩
   . obtain ⟨rfl,hn',qv',cv',h⟩:=hh
     refine r51_out hT1 fun T2 hT2 h13=>?_
     refine mu_cond mu_will true (evt h13) ?_
     refine mu_skip mu_will (mu_block mu_will (mu_skip mu_will (mu_inBlock mu_will (mu_inLoop mu_will ?_))))
     refine ih (q ++ [x]) qv' cv' V' T2 hn' h (fun y hy=>hx y (List.mem_cons_of_mem _ hy)) (by rw [List.length_append,List.length_singleton]; omega) hT2 fun V2 qv2 cv2 T3 hn2 h2 hT3=>?_
     rw [List.append_assoc,List.singleton_append] at h2
     exact K V2 qv2 cv2 T3 hn2 h2 hT3
theorem r51_end (hn : norm V = V) (hT : T51 T cb tp) (K : Will Try.prog main Z Stop (G (bQ.at (aQ.put ((opsQ[iQ]?).bind (·.dst)) (.int .i64 0)) (.inRegion opsQ restQ :: kQ)) cs) V) : Will Try.prog main Z Stop (G ((base 51).at ⟨T,[]⟩ [.code E51]) (bQ.at aQ (.inRegion opsQ (iQ :: restQ) :: kQ) :: cs)) V:=by
 have hK0:=K
 clear K
 obtain ⟨hs,t0,t1⟩:=hT
 obtain ⟨f,hf,hT⟩:=array14g T hs
 rw [hT]
 simp only [hf _ _ t0,hf _ _ t1]
 clear hf hs t0 t1
 subst hT
 generalize hX : E51 = X at *
 simp only [E51,B51,nvb,Try.f51,Option.getD_some] at hX
 subst hX
 obtain ⟨K,hK,hV,key,yek⟩:=kKV (L:=Lone) (J:=fun g=>Will Try.prog main Z Stop g V) mu_will (muv_will hn)
 refine key _ ?_
 refine wA fun kk hkk=>?_
 refine mu_leave1 hK rfl rfl Try.func51 rfl ?_
 refine yek _ ?_
 clear hK hV key yek K
 exact hK0
theorem bc_in (hn : norm V = V) {tb : Nat} (KK : ∀ T,T51 T cb (.pointer (some ⟨tb,0,none⟩)) -> Will Try.prog main Z Stop (G ((base 51).at ⟨T,[]⟩ [.code (.seq (.block 0 (.loop L51)) E51)]) (bQ.at aQ (.inRegion opsQ (iQ :: restQ) :: kQ) :: cs)) V) :
   Will Try.prog main Z Stop (G (Frame.enter Try.prog 51 #[.pointer (some ⟨cb,0,none⟩),.pointer (some ⟨tb,0,none⟩)] .normal) (bQ.at aQ (.inRegion opsQ (iQ :: restQ) :: kQ) :: cs)) V:=by
 rw [enter_at (P:=Try.prog) _ Try.func51 B51_eq]
 have hnt : Try.f51.ntmps = 14:=rfl
 rw [hnt]
 clear hnt
 refine mu_seq mu_will ?_
 generalize hX : P51 = X
 simp only [P51,B51,nva,Try.f51,Option.getD_some] at hX
 subst hX
 walk_nrm
 obtain ⟨K,hK,hV,key,yek⟩:=kKV (L:=Lone) (J:=fun g=>Will Try.prog main Z Stop g V) mu_will (muv_will hn)
 refine key _ ?_
 refine mu_regionH hK (fun kk hkk=>?_)
 simp only [List.size_toArray,List.length_cons,List.length_nil,Nat.reduceAdd,Nat.zero_add,List.range,List.range.loop]
 refine muv_val hV rfl (.inl rfl) rfl (by kernel_rfl) (fun J hJ=>?_)
 go_simp
 with_reducible refine hJ _ ?_
 clear hJ J
 walk_nrm
 refine mu_region_end hK ?_
 subst hkk
 refine mu_seq hK ?_
 generalize hX : C51 = X
 simp only [C51,B51,nva,nvb,Try.f51,Option.getD_some] at hX
 subst hX
 generalize hY : Code.seq (.block 0 (.loop L51)) E51 = Y at *
 refine wA fun kk hkk=>?_
 refine yek _ ?_
 clear hK hV key yek K
 exact KK _ ⟨by simp,rfl,rfl⟩
theorem will_bc (hn : norm V = V) (how : ow ≠ 0) (H : BcI V qv cv xa xb xc mb cb ow q qv cq cv V) (hx : ∀ x ∈ cq,x < 1000) (hl : q.length + cq.length < 1000000) {tb : Nat}
   (K : ∀ V' qv' cv',norm V' = V' -> BcI V qv cv xa xb xc mb cb ow (q ++ cq) qv' [] cv' V' -> Will Try.prog main Z Stop (G (bQ.at (aQ.put ((opsQ[iQ]?).bind (·.dst)) (.int .i64 0)) (.inRegion opsQ restQ :: kQ)) cs) V') :
   Will Try.prog main Z Stop (G (Frame.enter Try.prog 51 #[.pointer (some ⟨cb,0,none⟩),.pointer (some ⟨tb,0,none⟩)] .normal) (bQ.at aQ (.inRegion opsQ (iQ :: restQ) :: kQ) :: cs)) V :=
 bc_in hn fun T hT=>mu_seq mu_will (mu_block mu_will (mu_loop mu_will (bc_loop how cq q qv cv V T hn H hx hl hT fun V' qv' cv' T' hn' h hT'=>r51_end hn' hT' (K V' qv' cv' hn' h))))
theorem tell95e {w : World} {tp : Value} {b : Option Addr} {c : Nat} (hc : w.cell? ⟨cb,0,none⟩ = some (.slice b 0 c)) : Calls Try.prog 95 #[.pointer (some ⟨cb,0,none⟩),tp] w fun e w'=>e = .returned (.bool false) /\ Kp w w':=by
 have PO:=Lib.hid (pop130n cb w b c hc)
 have hlt:=cell_lk hc
 clear hc
 go_enter Try.func95,Try.ntmps95
 go_wp2_with (first
   | (go_at_call 130
      refine PO.out.mono ?_
      rintro e w1 ⟨rfl,k1⟩
      have hs1 : w.heap.size <= w1.heap.size:=k1.size
      have HB:=Lib.hid k1
      clear k1))
 go_ret
 exact ⟨rfl,HB.out.trans (al1_kp _ _)⟩
theorem bc_empty (hn : norm V = V) {b : Option Addr} {c : Nat} (hc : V.cell? ⟨cb,0,none⟩ = some (.slice b 0 c)) {tb : Nat}
   (K : ∀ V',norm V' = V' -> Kp V V' -> Will Try.prog main Z Stop (G (bQ.at (aQ.put ((opsQ[iQ]?).bind (·.dst)) (.int .i64 0)) (.inRegion opsQ restQ :: kQ)) cs) V') :
   Will Try.prog main Z Stop (G (Frame.enter Try.prog 51 #[.pointer (some ⟨cb,0,none⟩),.pointer (some ⟨tb,0,none⟩)] .normal) (bQ.at aQ (.inRegion opsQ (iQ :: restQ) :: kQ) :: cs)) V:=by
 refine bc_in hn fun T hT=>?_
 refine mu_seq mu_will (mu_block mu_will (mu_loop mu_will ?_))
 refine (fun (h : ∀ X,X = L51 -> Will Try.prog main Z Stop (G ((base 51).at ⟨T,[]⟩ (.code X :: .inLoop L51 :: .inBlock 0 :: [.code E51])) (bQ.at aQ (.inRegion opsQ (iQ :: restQ) :: kQ) :: cs)) V)=>h _ rfl) ?_
 intro X hX
 rw [L51_eq] at hX
 subst hX
 refine mu_seq mu_will (mu_seq mu_will (r51_in hn hT fun T1 hT1=>?_))
 refine will_call (R:=fun v V'=>v = .bool false /\ norm V' = V' /\ Kp V V') calm (by decide) (fun τ=>(tell95e (w:=re V τ 0) hc).mono fun e w' hh=>?_) fun v V' hh=>?_
 . obtain ⟨rfl,h⟩:=hh
   exact ⟨rfl,rfl,h.size,h.keep⟩
 . obtain ⟨rfl,hn',h⟩:=hh
   refine r51_out hT1 fun T2 hT2 h13=>?_
   refine mu_cond mu_will false (evt h13) ?_
   refine mu_exit mu_will rfl ?_
   exact r51_end hn' hT2 (K V' hn' h)
end
theorem array37f (T : Array Value) (h : T.size = 37) : ∃ f : Nat -> Value,(∀ i v,T[i]? = some v -> f i = v) /\ T = #[f 0,f 1,f 2,f 3,f 4,f 5,f 6,f 7,f 8,f 9,f 10,f 11,f 12,f 13,f 14,f 15,f 16,f 17,f 18,f 19,f 20,f 21,f 22,f 23,f 24,f 25,f 26,f 27,f 28,f 29,f 30,f 31,f 32,f 33,f 34,f 35,f 36]:=arrg T h
section
variable {C : Cw} {main : Bool} {Z : Cuts} {Stop : Goroutine -> World -> Prop} {V : World} {st : Nat -> Int} {i mb mo cb : Nat} {c : Frame} {cs : List Frame} {own : Nat -> Prop} {qv cv xa xb xc : Value} {q cq : List Nat} {T : Array Value} {kt : List Item} {bQ : Frame} {aQ : Act} {opsQ : Array Oper} {iQ : Nat} {restQ : List Nat} {kQ : List Item}
theorem will_hand (hn : norm V = V) {ow : Nat} (hO : ∀ a b,a < C.n -> b < C.n -> C.tb a = C.tb b -> a = b) (hcb : ∀ a,a < C.n -> C.tb a ≠ C.cb) (hi : i < C.n) (hn1 : C.n < 1000) (H : CwAt C false st V) (L : LsV C V) (h : MuI V own mb mo ow q qv) (hq : ∀ x ∈ q,x < C.n) (hqo : ∀ b,own b -> ¬ C.has b)
   (K : ∀ V' qv',UnP C st V own mb mo q qv V' qv' -> Will Try.prog main Z Stop (G (c.finish (.tuple #[])) cs) V') : Will Try.prog main Z Stop (G (Frame.enter Try.prog 93 #[.pointer (some ⟨mb,mo,none⟩),C.tp i] .normal) (c :: cs)) V:=by
 have hmb : ¬ C.has mb:=hqo _ h.mown
 cases q with
 | nil =>
   obtain ⟨vb,vc,rfl⟩:=mu_nil h
   refine will_call (R:=fun v V'=>v = .tuple #[] /\ V' = V.setCell ⟨mb,mo + 1,none⟩ (.int .i64 0)) calm (by decide) (fun τ=>(hand93n (C:=C) (st:=st) (i:=i) (w:=re V τ 0) mb mo vb vc (ow : Int) h.c0 h.c1 h.z1).mono fun e w' hh=>?_) fun v V' hh=>?_
   . obtain ⟨rfl,rfl⟩:=hh
     exact ⟨rfl,norm_set hn _ _⟩
   . obtain ⟨rfl,rfl⟩:=hh
     exact K _ _ (un_nil hn H L h hmb)
 | cons x q =>
   have hx:=hq x List.mem_cons_self
   refine will_call (R:=fun v V'=>v = .tuple #[] /\ V' = wkW C st x ((V.setCell ⟨mb,mo,none⟩ (cdr 1 qv)).setCell ⟨mb,mo + 1,none⟩ (.int .i64 (x + 1 : Nat)))) calm (by decide) (fun τ=>(hand93 (C:=C) (st:=st) (i:=i) (w:=re V τ 0) mb mo qv q.length (ints q) (ow : Int) hi hx hn1 (H.off fun _ _=>rfl) (L.off fun _ _=>rfl) hmb h.c0 h.z0 h.c1 h.z1 (h.qu.keep fun _ _=>rfl)).mono fun e w' hh=>?_) fun v V' hh=>?_
   . obtain ⟨rfl,rfl⟩:=hh
     refine ⟨rfl,?_⟩
     have hs : norm (((re V τ 0).setCell ⟨mb,mo,none⟩ (cdr 1 qv)).setCell ⟨mb,mo + 1,none⟩ (.int .i64 (x + 1 : Nat))) = (V.setCell ⟨mb,mo,none⟩ (cdr 1 qv)).setCell ⟨mb,mo + 1,none⟩ (.int .i64 (x + 1 : Nat)):=norm_set (norm_set hn _ _) _ _
     unfold wkW
     split
     . exact norm_set (norm_set (norm_set hn _ _) _ _) _ _
     . exact hs
   . obtain ⟨rfl,rfl⟩:=hh
     exact K _ _ (un_cons hn hO hcb hx H L h hmb hqo)
theorem rest_go (hn : norm V = V) {ow : Nat} (hi : i < C.n) (hn1 : C.n < 1000) (H : CwAt C false st V) (ho : V.cell? ⟨mb,mo + 1,none⟩ = some (.int .i64 (ow : Int)))
   (K1 : ow = i + 1 -> Will Try.prog main Z Stop (G (bQ.at (aQ.put ((opsQ[iQ]?).bind (·.dst)) (.tuple #[])) (.inRegion opsQ restQ :: kQ)) cs) V)
   (K0 : ow ≠ i + 1 -> ∀ f,RsP mb mo (C.tp i) f -> Will Try.prog main Z Stop (G (Frame.enter Try.prog 25 #[C.tp i] .normal) (f :: bQ.at aQ (.inRegion opsQ (iQ :: restQ) :: kQ) :: cs)) V) :
   Will Try.prog main Z Stop (G (Frame.enter Try.prog 92 #[.pointer (some ⟨mb,mo,none⟩),C.tp i] .normal) (bQ.at aQ (.inRegion opsQ (iQ :: restQ) :: kQ) :: cs)) V:=by
 have e92 : Try.f92.body = some (.block 0 (.loop X92)):=by kernel_rfl
 rw [enter_at (P:=Try.prog) _ Try.func92 e92]
 have hnt : Try.f92.ntmps = 10:=rfl
 rw [hnt]
 refine mu_block mu_will (mu_loop mu_will ?_)
 exact rest_loop hn hi hn1 H ho K1 K0 _ (by simp) (by simp) (by simp)
noncomputable def B49 : Code:=Try.f49.body.getD .skip
def P49 : Code:=nva B49
def Q49 : Code:=nva (nvb B49)
def R49d : Code:=nva (nvb (nvb B49))
def o49d : Array Oper:=rops R49d
def R49h : Code:=nva (nvb (nvb (nvb B49)))
def o49h : Array Oper:=rops R49h
def R49r : Code:=nva (nvb (nvb (nvb (nvb B49))))
def o49r : Array Oper:=rops R49r
def E49 : Code:=nvb (nvb (nvb (nvb (nvb B49))))
theorem B49_eq : Try.f49.body = some (.seq P49 (.seq Q49 (.seq R49d (.seq R49h (.seq R49r E49))))):=by kernel_rfl
def N49 (cb tb mb : Nat) (T : Array Value) : Prop:=T.size = 37 /\ T[0]? = some (.pointer (some ⟨cb,0,none⟩)) /\ T[1]? = some (.pointer (some ⟨tb,0,none⟩)) /\ T[2]? = some (.pointer (some ⟨mb,0,none⟩))
theorem N49.put {cb tb mb : Nat} {T : Array Value} {d : Nat} {v : Value} (h : N49 cb tb mb T) (hd : 3 <= d) : N49 cb tb mb (T.setIfInBounds d v):=by
 obtain ⟨h0,h1,h2,h3⟩:=h
 refine ⟨by simp [h0],?_,?_,?_⟩ <;> (rw [Array.getElem?_setIfInBounds_ne (by omega)]; assumption)
def WtR (f : Frame) : Prop:=∃ T,T.size = 37 /\ f = (base 49).at ⟨T,[]⟩ [.inRegion o49r [2],.code E49]
@[go_sem] theorem build183 (x : Int) (m : Option Addr) (w : World) : (Instr.build 183 #[(0,.int .i64 x),(1,.pointer m)]).run Try.prog w = .ok (.agg #[.int .i64 x,.pointer m]) w:=run_build w 183 _ _ (by kernel_rfl)
def n49deps : Nat -> List Nat:=fun i=>match i with | 1=>[0] | 2=>[1] | 4=>[3] | 6=>[4,5] | _=>[]
def n49val (cb tb i mb : Nat) : Nat -> Value:=fun k=>match k with | 0=>.pointer (some ⟨cb,0,none⟩) | 1=>.pointer (some ⟨cb,0,none⟩) | 2=>.pointer (some ⟨cb,0,none⟩) | 3=>.pointer (some ⟨tb,0,none⟩) | 4=>.int .i64 (i : Int) | 5=>.pointer (some ⟨mb,0,none⟩) | 6=>.agg #[.int .i64 (i : Int),.pointer (some ⟨mb,0,none⟩)] | _=>undef
def N49I (cb tb i mb : Nat) (listed : Array Bool) (a : Act) : Prop:=a.defers = [] /\ N49 cb tb mb a.tmps /\ ∀ j,j < 7 -> listed.getD j false = true -> a.tmps[23 + j]? = some (n49val cb tb i mb j)
theorem n49_deps : ∀ i,i < 7 -> ∃ o,o49d[i]? = some o /\ o.dst = some (23 + i) /\ ∀ d ∈ n49deps i,d < i /\ ∃ e ∈ o.after,e.on = d /\ Region.binds .any e = true:=by
 have key : ((List.range 7).all fun i=>(o49d[i]?).any fun o=>o.dst == some (23 + i) && (n49deps i).all fun d=>d < i && o.after.any fun e=>e.on == d && Region.binds .any e) = true:=by kernel_rfl
 intro i hi
 have h:=List.all_eq_true.1 key i (List.mem_range.2 hi)
 rcases ho : o49d[i]? with _ | o
 . rw [ho] at h; cases h
 . rw [ho] at h
   simp only [Option.any_some,Bool.and_eq_true,beq_iff_eq,List.all_eq_true,decide_eq_true_eq,Array.any_eq_true'] at h
   refine ⟨o,rfl,h.1,fun d hd=>⟨(h.2 d hd).1,?_⟩⟩
   obtain ⟨e,he,h1,h2⟩:=(h.2 d hd).2
   exact ⟨e,he,h1,h2⟩
theorem n49_0 (hn : norm V = V) (t0 : T[0]? = some (.pointer (some ⟨cb,0,none⟩))) {rest : List Nat} (h : Will Try.prog main Z Stop (G ((base 49).at (Act.put ⟨T,[]⟩ (some 23) (.pointer (some ⟨cb,0,none⟩))) (.inRegion o49d rest :: kt)) cs) V) : Will Try.prog main Z Stop (G ((base 49).at ⟨T,[]⟩ (.inRegion o49d (0 :: rest) :: kt)) cs) V:=by
 refine opv (K:=fun g=>Will Try.prog main Z Stop g V) (L:=Lone) (muv_will hn) (.inl rfl) (i:=0) (d:=23) (op:=.move (.tmp 0)) (by kernel_rfl) (by kernel_rfl) (fun o ho τ=>?_) h
 simp only [execOp,ho]
 go_simp
theorem n49_1 (hn : norm V = V) (t23 : T[23]? = some (.pointer (some ⟨cb,0,none⟩))) {rest : List Nat} (h : Will Try.prog main Z Stop (G ((base 49).at (Act.put ⟨T,[]⟩ (some 24) (.pointer (some ⟨cb,0,none⟩))) (.inRegion o49d rest :: kt)) cs) V) : Will Try.prog main Z Stop (G ((base 49).at ⟨T,[]⟩ (.inRegion o49d (1 :: rest) :: kt)) cs) V:=by
 refine opv (K:=fun g=>Will Try.prog main Z Stop g V) (L:=Lone) (muv_will hn) (.inl rfl) (i:=1) (d:=24) (op:=.nilCheck (.tmp 23)) (by kernel_rfl) (by kernel_rfl) (fun o ho τ=>?_) h
 simp only [execOp,ho]
 go_simp
theorem n49_2 (hn : norm V = V) (t24 : T[24]? = some (.pointer (some ⟨cb,0,none⟩))) {rest : List Nat} (h : Will Try.prog main Z Stop (G ((base 49).at (Act.put ⟨T,[]⟩ (some 25) (.pointer (some ⟨cb,0,none⟩))) (.inRegion o49d rest :: kt)) cs) V) : Will Try.prog main Z Stop (G ((base 49).at ⟨T,[]⟩ (.inRegion o49d (2 :: rest) :: kt)) cs) V:=by
 refine opv (K:=fun g=>Will Try.prog main Z Stop g V) (L:=Lone) (muv_will hn) (.inl rfl) (i:=2) (d:=25) (op:=.fieldAddr 102 (.tmp 24) 0) (by kernel_rfl) (by kernel_rfl) (fun o ho τ=>?_) h
 simp only [execOp,ho]
 go_simp
theorem n49_3 (hn : norm V = V) (t1 : T[1]? = some (.pointer (some ⟨(C.tb i),0,none⟩))) {rest : List Nat} (h : Will Try.prog main Z Stop (G ((base 49).at (Act.put ⟨T,[]⟩ (some 26) (.pointer (some ⟨(C.tb i),0,none⟩))) (.inRegion o49d rest :: kt)) cs) V) : Will Try.prog main Z Stop (G ((base 49).at ⟨T,[]⟩ (.inRegion o49d (3 :: rest) :: kt)) cs) V:=by
 refine opv (K:=fun g=>Will Try.prog main Z Stop g V) (L:=Lone) (muv_will hn) (.inl rfl) (i:=3) (d:=26) (op:=.move (.tmp 1)) (by kernel_rfl) (by kernel_rfl) (fun o ho τ=>?_) h
 simp only [execOp,ho]
 go_simp
theorem n49_4 (hn : norm V = V) (hi : i < C.n) (H : CwAt C false st V) (t26 : T[26]? = some (.pointer (some ⟨(C.tb i),0,none⟩))) {rest : List Nat} (h : Will Try.prog main Z Stop (G ((base 49).at (Act.put ⟨T,[]⟩ (some 27) (.int .i64 (i : Int))) (.inRegion o49d rest :: kt)) cs) V) : Will Try.prog main Z Stop (G ((base 49).at ⟨T,[]⟩ (.inRegion o49d (4 :: rest) :: kt)) cs) V:=by
 refine opc (K:=fun g=>Will Try.prog main Z Stop g V) mu_will (base_ne _) (i:=4) (d:=some 27) (f:=27) (args:=#[.tmp 26]) (ats:=#[50]) (by kernel_rfl) Try.func27 (by kernel_rfl) rfl fun hd=>?_
 have ea : (#[.tmp 26] : Array Operand).map (Act.eval ⟨T,[]⟩) = #[Value.pointer (some ⟨C.tb i,0,none⟩)]:=by simp [t26,Act.eval]
 rw [ea]
 refine will_id (C:=C) hn hi H ?_
 rw [Frame.finish_at,hd]
 exact h
theorem n49_5 (hn : norm V = V) (t2 : T[2]? = some (.pointer (some ⟨mb,0,none⟩))) {rest : List Nat} (h : Will Try.prog main Z Stop (G ((base 49).at (Act.put ⟨T,[]⟩ (some 28) (.pointer (some ⟨mb,0,none⟩))) (.inRegion o49d rest :: kt)) cs) V) : Will Try.prog main Z Stop (G ((base 49).at ⟨T,[]⟩ (.inRegion o49d (5 :: rest) :: kt)) cs) V:=by
 refine opv (K:=fun g=>Will Try.prog main Z Stop g V) (L:=Lone) (muv_will hn) (.inl rfl) (i:=5) (d:=28) (op:=.move (.tmp 2)) (by kernel_rfl) (by kernel_rfl) (fun o ho τ=>?_) h
 simp only [execOp,ho]
 go_simp
theorem n49_6 (hn : norm V = V) (t27 : T[27]? = some (.int .i64 (i : Int))) (t28 : T[28]? = some (.pointer (some ⟨mb,0,none⟩))) {rest : List Nat} (h : Will Try.prog main Z Stop (G ((base 49).at (Act.put ⟨T,[]⟩ (some 29) (.agg #[.int .i64 (i : Int),.pointer (some ⟨mb,0,none⟩)])) (.inRegion o49d rest :: kt)) cs) V) : Will Try.prog main Z Stop (G ((base 49).at ⟨T,[]⟩ (.inRegion o49d (6 :: rest) :: kt)) cs) V:=by
 refine opv (K:=fun g=>Will Try.prog main Z Stop g V) (L:=Lone) (muv_will hn) (.inl rfl) (i:=6) (d:=29) (op:=.build 183 #[(0,.tmp 27),(1,.tmp 28)]) (by kernel_rfl) (by kernel_rfl) (fun o ho τ=>?_) h
 simp only [execOp,ho]
 go_simp
theorem n49_step (hn : norm V = V) (hi : i < C.n) (H : CwAt C false st V) (hT : N49 cb (C.tb i) mb T) (j : Nat) (hj : j < 7) (hd : ∀ d ∈ n49deps j,T[23 + d]? = some (n49val cb (C.tb i) i mb d)) {rest : List Nat}
   (h : Will Try.prog main Z Stop (G ((base 49).at (Act.put ⟨T,[]⟩ (some (23 + j)) (n49val cb (C.tb i) i mb j)) (.inRegion o49d rest :: kt)) cs) V) : Will Try.prog main Z Stop (G ((base 49).at ⟨T,[]⟩ (.inRegion o49d (j :: rest) :: kt)) cs) V:=by
 obtain ⟨hs,t0,t1,t2⟩:=hT
 rcases (show j = 0 ∨ j = 1 ∨ j = 2 ∨ j = 3 ∨ j = 4 ∨ j = 5 ∨ j = 6 by omega) with rfl | rfl | rfl | rfl | rfl | rfl | rfl
 . exact n49_0 hn t0 h
 . exact n49_1 hn (hd 0 (by decide)) h
 . exact n49_2 hn (hd 1 (by decide)) h
 . exact n49_3 hn t1 h
 . exact n49_4 hn hi H (hd 3 (by decide)) h
 . exact n49_5 hn t2 h
 . exact n49_6 hn (hd 4 (by decide)) (hd 5 (by decide)) h
theorem n49_go (hn : norm V = V) (hi : i < C.n) (H : CwAt C false st V) (hT : N49 cb (C.tb i) mb T)
   (K : ∀ T',N49 cb (C.tb i) mb T' -> Will Try.prog main Z Stop (G (Frame.enter Try.prog 94 #[.pointer (some ⟨cb,0,none⟩),.agg #[.int .i64 (i : Int),.pointer (some ⟨mb,0,none⟩)]] .normal) ((base 49).at ⟨T',[]⟩ (.inRegion o49d [7] :: kt) :: cs)) V) :
   Will Try.prog main Z Stop (G ((base 49).at ⟨T,[]⟩ (.code R49d :: kt)) cs) V:=by
 have e : R49d = .region 5 o49d true:=by kernel_rfl
 rw [e]
 refine order2_go (P:=Try.prog) (K:=fun g=>Will Try.prog main Z Stop g V) (j:=7) (N:=8) mud_will (by kernel_rfl) (by kernel_rfl) (by kernel_rfl) (by decide) (N49I cb (C.tb i) i mb) ⟨rfl,hT,fun j hj h=>by
   rw [show (Array.replicate 8 false).getD j false = false by rw [Array.getD_eq_getD_getElem?,Array.getElem?_replicate]; split <;> rfl] at h
   cases h⟩ (fun listed a j hI hl hj hne hr=>?_) fun listed a hI hall=>?_
 . obtain ⟨T,df⟩:=a
   obtain ⟨hdf,hN,hv⟩:=hI
   obtain rfl : df = []:=hdf
   have hj2 : j < 7:=by omega
   obtain ⟨o,ho,hdst,hdp⟩:=n49_deps j hj2
   refine ⟨_,⟨rfl,hN.put (d:=23 + j) (v:=n49val cb (C.tb i) i mb j) (by omega),fun i' hi' hl'=>?_⟩,fun rest hk=>n49_step hn hi H hN j hj2 (fun d hd=>?_) hk⟩
   . show (T.setIfInBounds (23 + j) (n49val cb (C.tb i) i mb j))[23 + i']? = _
     by_cases e : i' = j
     . subst e
       rw [Array.getElem?_setIfInBounds_self_of_lt (by rw [hN.1]; omega)]
     . rw [Array.getElem?_setIfInBounds_ne (by omega)]
       refine hv i' hi' ?_
       rw [getD_set_ne false (Ne.symm e)] at hl'
       exact hl'
   . obtain ⟨h1,e,he,h2,h3⟩:=hdp d hd
     obtain ⟨_,o',ho',hall⟩:=mem_ready.1 hr
     rw [ho] at ho'
     obtain rfl:=Option.some.inj ho'
     have:=hall e he h3
     rw [h2] at this
     exact hv d (by omega) this
 . obtain ⟨T,df⟩:=a
   obtain ⟨hdf,hN,hv⟩:=hI
   obtain rfl : df = []:=hdf
   have t25:=hv 2 (by omega) (hall 2 (by omega) (by omega))
   have t29:=hv 6 (by omega) (hall 6 (by omega) (by omega))
   refine opc (K:=fun g=>Will Try.prog main Z Stop g V) mu_will (base_ne _) (i:=7) (d:=some 30) (f:=94) (args:=#[.tmp 25,.tmp 29]) (ats:=#[100,183]) (by kernel_rfl) Try.func94 (by kernel_rfl) rfl fun hd=>?_
   have ea : (#[.tmp 25,.tmp 29] : Array Operand).map (Act.eval ⟨T,[]⟩) = #[Value.pointer (some ⟨cb,0,none⟩),Value.agg #[.int .i64 (i : Int),.pointer (some ⟨mb,0,none⟩)]]:=by
     simp [Act.eval,t25,t29,n49val]
   rw [ea]
   exact K T hN
theorem r49h_in (hn : norm V = V) (hT : N49 cb (C.tb i) mb T) (K : ∀ T',N49 cb (C.tb i) mb T' -> Will Try.prog main Z Stop (G (Frame.enter Try.prog 93 #[.pointer (some ⟨mb,0,none⟩),.pointer (some ⟨(C.tb i),0,none⟩)] .normal) ((base 49).at ⟨T',[]⟩ (.inRegion o49h [2] :: kt) :: cs)) V) :
   Will Try.prog main Z Stop (G ((base 49).at ⟨T,[]⟩ (.code R49h :: kt)) cs) V:=by
 have e : R49h = .region 6 o49h false:=by kernel_rfl
 rw [e]
 have hr : List.range o49h.size = [0,1,2]:=by kernel_rfl
 refine mu_region mu_will ?_
 rw [hr]
 have t1:=hT.2.2.1
 have t2:=hT.2.2.2
 refine opv (K:=fun g=>Will Try.prog main Z Stop g V) (L:=Lone) (muv_will hn) (.inl rfl) (i:=0) (d:=31) (op:=.move (.tmp 2)) (v:=.pointer (some ⟨mb,0,none⟩)) (by kernel_rfl) (by kernel_rfl) (fun o ho τ=>?_) ?_
 . simp only [execOp,ho]
   go_simp
 have hT2:=hT.put (d:=31) (v:=.pointer (some ⟨mb,0,none⟩)) (by decide)
 have t31 : (T.setIfInBounds 31 (.pointer (some ⟨mb,0,none⟩)))[31]? = some (.pointer (some ⟨mb,0,none⟩)):=by rw [Array.getElem?_setIfInBounds_self_of_lt (by rw [hT.1]; decide)]
 show Will Try.prog main Z Stop (G ((base 49).at ⟨T.setIfInBounds 31 (.pointer (some ⟨mb,0,none⟩)),[]⟩ (.inRegion o49h [1,2] :: kt)) cs) V
 generalize T.setIfInBounds 31 (.pointer (some ⟨mb,0,none⟩)) = T2 at *
 clear t1 t2
 have t1:=hT2.2.2.1
 refine opv (K:=fun g=>Will Try.prog main Z Stop g V) (L:=Lone) (muv_will hn) (.inl rfl) (i:=1) (d:=32) (op:=.move (.tmp 1)) (v:=.pointer (some ⟨(C.tb i),0,none⟩)) (by kernel_rfl) (by kernel_rfl) (fun o ho τ=>?_) ?_
 . simp only [execOp,ho]
   go_simp
 have hT3:=hT2.put (d:=32) (v:=.pointer (some ⟨(C.tb i),0,none⟩)) (by decide)
 have t32 : (T2.setIfInBounds 32 (.pointer (some ⟨(C.tb i),0,none⟩)))[32]? = some (.pointer (some ⟨(C.tb i),0,none⟩)):=by rw [Array.getElem?_setIfInBounds_self_of_lt (by rw [hT2.1]; decide)]
 have s31 : (T2.setIfInBounds 32 (.pointer (some ⟨(C.tb i),0,none⟩)))[31]? = some (.pointer (some ⟨mb,0,none⟩)):=by rw [Array.getElem?_setIfInBounds_ne (by decide)]; exact t31
 show Will Try.prog main Z Stop (G ((base 49).at ⟨T2.setIfInBounds 32 (.pointer (some ⟨(C.tb i),0,none⟩)),[]⟩ (.inRegion o49h [2] :: kt)) cs) V
 generalize T2.setIfInBounds 32 (.pointer (some ⟨(C.tb i),0,none⟩)) = T3 at *
 refine opc (K:=fun g=>Will Try.prog main Z Stop g V) mu_will (base_ne _) (i:=2) (d:=some 33) (f:=93) (args:=#[.tmp 31,.tmp 32]) (ats:=#[104,50]) (by kernel_rfl) Try.func93 (by kernel_rfl) rfl fun hd=>?_
 have ea : (#[.tmp 31,.tmp 32] : Array Operand).map (Act.eval ⟨T3,[]⟩) = #[Value.pointer (some ⟨mb,0,none⟩),Value.pointer (some ⟨(C.tb i),0,none⟩)]:=by simp [Act.eval,s31,t32]
 rw [ea]
 exact K T3 hT3
theorem r49r_in (hn : norm V = V) (hT : N49 cb (C.tb i) mb T) (K : ∀ T',N49 cb (C.tb i) mb T' -> Will Try.prog main Z Stop (G (Frame.enter Try.prog 92 #[.pointer (some ⟨mb,0,none⟩),.pointer (some ⟨(C.tb i),0,none⟩)] .normal) ((base 49).at ⟨T',[]⟩ (.inRegion o49r [2] :: kt) :: cs)) V) :
   Will Try.prog main Z Stop (G ((base 49).at ⟨T,[]⟩ (.code R49r :: kt)) cs) V:=by
 have e : R49r = .region 7 o49r false:=by kernel_rfl
 rw [e]
 have hr : List.range o49r.size = [0,1,2]:=by kernel_rfl
 refine mu_region mu_will ?_
 rw [hr]
 have t1:=hT.2.2.1
 have t2:=hT.2.2.2
 refine opv (K:=fun g=>Will Try.prog main Z Stop g V) (L:=Lone) (muv_will hn) (.inl rfl) (i:=0) (d:=34) (op:=.move (.tmp 2)) (v:=.pointer (some ⟨mb,0,none⟩)) (by kernel_rfl) (by kernel_rfl) (fun o ho τ=>?_) ?_
 . simp only [execOp,ho]
   go_simp
 have hT2:=hT.put (d:=34) (v:=.pointer (some ⟨mb,0,none⟩)) (by decide)
 have t34 : (T.setIfInBounds 34 (.pointer (some ⟨mb,0,none⟩)))[34]? = some (.pointer (some ⟨mb,0,none⟩)):=by rw [Array.getElem?_setIfInBounds_self_of_lt (by rw [hT.1]; decide)]
 show Will Try.prog main Z Stop (G ((base 49).at ⟨T.setIfInBounds 34 (.pointer (some ⟨mb,0,none⟩)),[]⟩ (.inRegion o49r [1,2] :: kt)) cs) V
 generalize T.setIfInBounds 34 (.pointer (some ⟨mb,0,none⟩)) = T2 at *
 clear t1 t2
 have t1:=hT2.2.2.1
 refine opv (K:=fun g=>Will Try.prog main Z Stop g V) (L:=Lone) (muv_will hn) (.inl rfl) (i:=1) (d:=35) (op:=.move (.tmp 1)) (v:=.pointer (some ⟨(C.tb i),0,none⟩)) (by kernel_rfl) (by kernel_rfl) (fun o ho τ=>?_) ?_
 . simp only [execOp,ho]
   go_simp
 have hT3:=hT2.put (d:=35) (v:=.pointer (some ⟨(C.tb i),0,none⟩)) (by decide)
 have t35 : (T2.setIfInBounds 35 (.pointer (some ⟨(C.tb i),0,none⟩)))[35]? = some (.pointer (some ⟨(C.tb i),0,none⟩)):=by rw [Array.getElem?_setIfInBounds_self_of_lt (by rw [hT2.1]; decide)]
 have s34 : (T2.setIfInBounds 35 (.pointer (some ⟨(C.tb i),0,none⟩)))[34]? = some (.pointer (some ⟨mb,0,none⟩)):=by rw [Array.getElem?_setIfInBounds_ne (by decide)]; exact t34
 show Will Try.prog main Z Stop (G ((base 49).at ⟨T2.setIfInBounds 35 (.pointer (some ⟨(C.tb i),0,none⟩)),[]⟩ (.inRegion o49r [2] :: kt)) cs) V
 generalize T2.setIfInBounds 35 (.pointer (some ⟨(C.tb i),0,none⟩)) = T3 at *
 refine opc (K:=fun g=>Will Try.prog main Z Stop g V) mu_will (base_ne _) (i:=2) (d:=some 36) (f:=92) (args:=#[.tmp 34,.tmp 35]) (ats:=#[104,50]) (by kernel_rfl) Try.func92 (by kernel_rfl) rfl fun hd=>?_
 have ea : (#[.tmp 34,.tmp 35] : Array Operand).map (Act.eval ⟨T3,[]⟩) = #[Value.pointer (some ⟨mb,0,none⟩),Value.pointer (some ⟨(C.tb i),0,none⟩)]:=by simp [Act.eval,s34,t35]
 rw [ea]
 exact K T3 hT3
end
section
variable {C : Cw} {main : Bool} {Z : Cuts} {Stop : Goroutine -> World -> Prop} {V : World} {st : Nat -> Int} {i mb cb : Nat} {cs : List Frame} {own : Nat -> Prop} {qv cv xa xb xc : Value} {q cq : List Nat} {T : Array Value} {kt : List Item} {bQ : Frame} {aQ : Act} {opsQ : Array Oper} {iQ : Nat} {restQ : List Nat} {kQ : List Item}
theorem w49_in (hn : norm V = V) (hi : i < C.n) (hn1 : C.n < 1000) (H : CwAt C false st V) (ho : V.cell? ⟨mb,1,none⟩ = some (.int .i64 ((i + 1 : Nat) : Int))) (K : ∀ T,N49 cb (C.tb i) mb T -> Will Try.prog main Z Stop (G ((base 49).at ⟨T,[]⟩ [.code R49d,.code (.seq R49h (.seq R49r E49))]) (bQ.at aQ (.inRegion opsQ (iQ :: restQ) :: kQ) :: cs)) V) :
   Will Try.prog main Z Stop (G (Frame.enter Try.prog 49 #[.pointer (some ⟨cb,0,none⟩),C.tp i,.pointer (some ⟨mb,0,none⟩)] .normal) (bQ.at aQ (.inRegion opsQ (iQ :: restQ) :: kQ) :: cs)) V:=by
 have e1 : (((i + 1 : Nat) : Int) == (i : Int) + 1) = true:=by simp
 have HAS:=fun (d : Frame) (ds : List Frame)=>will_has (mo:=0) (main:=main) (Z:=Z) (Stop:=Stop) (c:=d) (cs:=ds) hn hi hn1 H ho
 rw [e1] at HAS
 simp only [Cw.tp] at HAS ⊢
 clear H ho e1
 have hK0:=K
 clear K
 rw [enter_at (P:=Try.prog) _ Try.func49 B49_eq]
 have hnt : Try.f49.ntmps = 37:=rfl
 rw [hnt]
 clear hnt
 refine mu_seq mu_will ?_
 generalize hX : P49 = X
 simp only [P49,B49,nva,Try.f49,Option.getD_some] at hX
 subst hX
 generalize hZ : Code.seq R49d (.seq R49h (.seq R49r E49)) = ZZ
 walk_nrm
 obtain ⟨K,hK,hV,key,yek⟩:=kKV (L:=Lone) (J:=fun g=>Will Try.prog main Z Stop g V) mu_will (muv_will hn)
 refine key _ ?_
 refine mu_regionH hK (fun kk hkk=>?_)
 simp only [List.size_toArray,List.length_cons,List.length_nil,Nat.reduceAdd,Nat.zero_add,List.range,List.range.loop]
 refine muv_val hV rfl (.inl rfl) rfl (by kernel_rfl) (fun J hJ=>?_)
 go_simp
 with_reducible refine hJ _ ?_
 clear hJ J
 walk_nrm
 refine mu_region_end hK ?_
 subst hkk
 refine mu_seq hK ?_
 generalize hX : Q49 = X
 simp only [Q49,B49,nva,nvb,Try.f49,Option.getD_some] at hX
 subst hX
 refine wA fun kk hkk=>?_
 refine hK.cl rfl rfl rfl Try.func90 rfl ?_
 walk_nrm
 refine yek _ ?_
 clear hK hV key yek K
 refine HAS _ _ ?_
 rw [Frame.finish_at]
 walk_nrm
 obtain ⟨K,hK,hV,key,yek⟩:=kKV (L:=Lone) (J:=fun g=>Will Try.prog main Z Stop g V) mu_will (muv_will hn)
 refine key _ ?_
 refine wA fun kk hkk=>?_
 subst hZ
 refine mu_seq hK ?_
 refine yek _ ?_
 clear hK hV key yek K
 refine hK0 _ ⟨by simp,rfl,rfl,rfl⟩
theorem wait_in (hn : norm V = V) (hO : ∀ a b,a < C.n -> b < C.n -> C.tb a = C.tb b -> a = b) (hcc : ∀ a,a < C.n -> C.tb a ≠ C.cb) (hi : i < C.n) (hn1 : C.n < 1000) (H : CwAt C false st V) (L : LsV C V) (M : MuI V own mb 0 (i + 1) q qv) (hq : ∀ x ∈ q,x < C.n /\ x ≠ i) (hqo : ∀ b,own b -> ¬ C.has b)
   (ecb : V.heap[cb]? = some (.cells #[cv,xa,xb,xc] 201 (0,0))) (ocb : own cb) (hne : mb ≠ cb) (Q : Qu V 183 2 cv cq.length (wts mb cq)) (ocv : ∀ b,cv.ownBlock = some b -> own b) (h1 : cv.ownBlock ≠ some cb) (h2 : cv.ownBlock ≠ some mb) (h3 : qv.ownBlock ≠ some cb) (hlen : cq.length < 1000)
   (K : ∀ V1 cv' V2 qv' f g,PuW V cb cv xa xb xc cq.length (wts mb cq) i (.pointer (some ⟨mb,0,none⟩)) V1 cv' -> UnP C st V1 own mb 0 q qv V2 qv' -> RsP mb 0 (C.tp i) f -> WtR g -> Will Try.prog main Z Stop (G (Frame.enter Try.prog 25 #[C.tp i] .normal) (f :: g :: bQ.at aQ (.inRegion opsQ (iQ :: restQ) :: kQ) :: cs)) V2) :
   Will Try.prog main Z Stop (G (Frame.enter Try.prog 49 #[.pointer (some ⟨cb,0,none⟩),C.tp i,.pointer (some ⟨mb,0,none⟩)] .normal) (bQ.at aQ (.inRegion opsQ (iQ :: restQ) :: kQ) :: cs)) V:=by
 refine w49_in hn hi hn1 H M.c1 fun T hT=>?_
 refine n49_go hn hi H hT fun T1 hT1=>?_
 refine will_push hn ecb Q (by omega) h1 fun V1 cv' PU=>?_
 have hd : ((o49d[7]?).map (·.dst)) = some (some 30):=by kernel_rfl
 have hd2 : ((o49d[7]?).bind (·.dst)) = some 30:=by
   rcases ho : o49d[7]? with _ | o
   . rw [ho] at hd; cases hd
   . rw [ho] at hd; simpa using hd
 rw [hd2]
 refine mu_region_end mu_will (mu_seq mu_will ?_)
 have hlt:=has_lt H L (by omega)
 have hoff : ∀ b,C.has b -> V1.heap[b]? = V.heap[b]?:=fun b hb=>PU.keep b (hlt b hb) (fun e=>hqo cb ocb (e ▸ hb)) (fun e=>hqo b (ocv b e) hb)
 have H1:=H.off hoff
 have L1:=L.off hoff
 have M1 : MuI V1 own mb 0 (i + 1) q qv:=M.keep2 (PU.keep mb (cell_lk M.c0) hne h2) fun b hb=>PU.keep b (M.qu.at_ hb) (fun e=>h3 (e ▸ hb)) (qu_ne M.qu Q (by decide) hb)
 refine r49h_in PU.nrm (hT1.put (d:=30) (by decide)) fun T2 hT2=>?_
 refine will_hand PU.nrm hO hcc hi hn1 H1 L1 M1 (fun x hx=>(hq x hx).1) hqo fun V2 qv' U=>?_
 have hd3 : ((o49h[2]?).map (·.dst)) = some (some 33):=by kernel_rfl
 have hd4 : ((o49h[2]?).bind (·.dst)) = some 33:=by
   rcases ho : o49h[2]? with _ | o
   . rw [ho] at hd3; cases hd3
   . rw [ho] at hd3; simpa using hd3
 rw [Frame.finish_at,hd4]
 refine mu_region_end mu_will (mu_seq mu_will ?_)
 refine r49r_in U.nrm (hT2.put (d:=33) (by decide)) fun T3 hT3=>?_
 have how : unOw q ≠ i + 1:=by
   cases q with
   | nil=>show 0 ≠ i + 1; omega
   | cons x l =>
     have:=(hq x List.mem_cons_self).2
     show x + 1 ≠ i + 1; omega
 refine rest_go U.nrm hi hn1 U.cw (mo:=0) U.mu.c1 (fun e=>absurd e how) fun _ f hf=>?_
 exact K V1 cv' V2 qv' f _ PU U hf ⟨T3,hT3.1,rfl⟩
theorem wait_ret (hn : norm V = V) (K1 : Will Try.prog main Z Stop (G (bQ.at (aQ.put ((opsQ[iQ]?).bind (·.dst)) (.int .i64 0)) (.inRegion opsQ restQ :: kQ)) cs) V)
   {b : Frame} {a : Act} {ops : Array Oper} {j : Nat} {rest : List Nat} {k : List Item} (hfr : WtR (b.at a (.inRegion ops (j :: rest) :: k))) :
   Will Try.prog main Z Stop (G (b.at (a.put ((ops[j]?).bind (·.dst)) (.tuple #[])) (.inRegion ops rest :: k)) (bQ.at aQ (.inRegion opsQ (iQ :: restQ) :: kQ) :: cs)) V:=by
 obtain ⟨T,hs,e⟩:=hfr
 obtain ⟨rfl,e2,e3⟩:=at_inj e
 obtain ⟨rfl,e4,rfl⟩:=item_inj e2
 obtain ⟨rfl,rfl⟩:=List.cons.inj e4
 rw [e3]
 have hK0:=K1
 clear K1 e e2 e3 e4
 have hd : ((o49r[2]?).map (·.dst)) = some (some 36):=by kernel_rfl
 have hd2 : ((o49r[2]?).bind (·.dst)) = some 36:=by
   rcases ho : o49r[2]? with _ | o
   . rw [ho] at hd; cases hd
   . rw [ho] at hd; simpa using hd
 rw [hd2]
 refine mu_region_end mu_will ?_
 show Will Try.prog main Z Stop (G ((base 49).at ⟨T.setIfInBounds 36 (.tuple #[]),[]⟩ [.code E49]) (bQ.at aQ (.inRegion opsQ (iQ :: restQ) :: kQ) :: cs)) V
 have hs2 : (T.setIfInBounds 36 (.tuple #[])).size = 37:=by simpa using hs
 generalize T.setIfInBounds 36 (.tuple #[]) = T2 at *
 clear hs hd hd2
 have hs:=hs2
 clear hs2
 obtain ⟨f,hf,hT⟩:=array37f T2 hs
 rw [hT]
 clear hf hs
 subst hT
 generalize hX : E49 = X
 simp only [E49,B49,nvb,Try.f49,Option.getD_some] at hX
 subst hX
 obtain ⟨K,hK,hV,key,yek⟩:=kKV (L:=Lone) (J:=fun g=>Will Try.prog main Z Stop g V) mu_will (muv_will hn)
 refine key _ ?_
 refine wA fun kk hkk=>?_
 refine mu_leave1 hK rfl rfl Try.func49 rfl ?_
 refine yek _ ?_
 clear hK hV key yek K
 exact hK0
end
end
end Go.Proofs.Ytibcdikfbhmheaa
